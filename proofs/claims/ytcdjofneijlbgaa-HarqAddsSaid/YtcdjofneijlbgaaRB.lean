/- The document's Back. -/
import Derived.Test.YtcdjofneijlbgaaRO
import Derived.Deep.RegionHeld3
namespace Go.Proofs.Ytcdjofneijlbgaa.A
open Go.RowKit Go.Proofs.Ytcdjofneijlbgaa.K Go.Proofs.Ytcdjofneijlbgaa.F Go.Proofs.Ytcdjofneijlbgaa.N
set_option linter.unusedVariables false
set_option linter.unusedSimpArgs false

theorem eqIn_fl' (d a b : Nat) (w : World) : (Op.equalIn (d + 1) 58 (.float .f64 a) (.float .f64 b)).run Try.prog w = .ok (FloatKind.f64.format.order a b == some .eq) w := by
  simp [Op.equalIn, run_underlying Try.underlying58]; rfl
theorem eq_fl' (a b : Nat) (w : World) : (Op.equalIn 9999 58 (.float .f64 a) (.float .f64 b)).run Try.prog w = .ok (FloatKind.f64.format.order a b == some .eq) w := eqIn_fl' 9998 a b w
theorem cell_keep' {w w' : World} {a : Addr} {v : Value} (f : Frm No w w') (h : w.cell? a = some v) : w'.cell? a = some v :=
  (World.cell?_of_block (f.block _ (World.block_lt_of_cell? w _ h) (fun h => h))).trans h

/-- What is begun of a byte behind t points from i on. -/
def bv (L : List Pt) (i : Nat) : Nat → Nat
  | 0 => 0
  | t + 1 => 4 * bv L i t + bit2 (L.getD (i + t) (0, 0))
theorem bv_lt (L : List Pt) (i : Nat) : ∀ t, bv L i t < 4 ^ t
  | 0 => by simp [bv]
  | t + 1 => by
    unfold bv
    have := bv_lt L i t
    have := bit2_lt (L.getD (i + t) (0, 0))
    rw [Nat.pow_succ]; omega
theorem bv_64 (L : List Pt) (i : Nat) {t : Nat} (h : t < 4) : bv L i t < 64 := by
  have := bv_lt L i t
  have : t = 0 ∨ t = 1 ∨ t = 2 ∨ t = 3 := by omega
  rcases this with rfl | rfl | rfl | rfl <;> omega
theorem pv_zero (L : List Pt) (g : Nat) : pv L (4 * g) = 0 := by
  cases g with
  | zero => rfl
  | succ g => rw [show 4 * (g + 1) = 4 * g + 3 + 1 by omega, pv, if_pos (by omega)]
theorem po_four (L : List Pt) (g : Nat) : po L (4 * g + 4) = po L (4 * g) ++ [bv L (4 * g) 4] := by
  have m1 : ¬ (4 * g + 1) % 4 = 0 := by omega
  have m2 : ¬ (4 * g + 1 + 1) % 4 = 0 := by omega
  have m3 : ¬ (4 * g + 2 + 1) % 4 = 0 := by omega
  have m4 : (4 * g + 3 + 1) % 4 = 0 := by omega
  have s1 : pv L (4 * g + 1) = bv L (4 * g) 1 := by rw [pv, if_neg m1, pv_zero]; rfl
  have s2 : pv L (4 * g + 1 + 1) = bv L (4 * g) 2 := by rw [pv, if_neg m2, s1]; rfl
  have s3 : pv L (4 * g + 2 + 1) = bv L (4 * g) 3 := by rw [pv, if_neg m3, show 4 * g + 2 = 4 * g + 1 + 1 by omega, s2]; rfl
  have p1 : po L (4 * g + 1) = po L (4 * g) := by rw [po, if_neg m1]
  have p2 : po L (4 * g + 1 + 1) = po L (4 * g) := by rw [po, if_neg m2, p1]
  have p3 : po L (4 * g + 2 + 1) = po L (4 * g) := by rw [po, if_neg m3, show 4 * g + 2 = 4 * g + 1 + 1 by omega, p2]
  rw [show 4 * g + 4 = 4 * g + 3 + 1 by omega, po, if_pos m4, show 4 * g + 3 = 4 * g + 2 + 1 by omega, s3, p3]
  rfl

set_option maxRecDepth 100000 in
set_option maxHeartbeats 8000000 in
theorem rback_ok (w : World) (A : Option Addr) (n c : Nat) (L : List Pt) (hL : L.length = n) (hn : n ≤ 100000) (h : RdP w A L) (hs : Sml L) :
    Calls Try.prog 33 #[.slice A n c] w fun e w' => ∃ v, e = .returned (.tuple #[v, .bool (okB L)]) ∧ RowB w' w.heap.size v (outB L) ∧ Frm No w w' := by
  obtain ⟨i0, hi, hz0, hz1, hz2⟩ := info_parts info5
  have heq := eq_fl'
  obtain ⟨E, hE⟩ : ∃ E, okB L = E := ⟨_, rfl⟩
  obtain ⟨O, hO⟩ : ∃ O, outB L = O := ⟨_, rfl⟩
  rw [hE, hO]
  have HE := Lib.hid hE
  have HO := Lib.hid hO
  clear hE hO
  have n9 : (n : Int) ≤ 100000 := by omega
  by_cases hm : n % 4 = 0
  · have d0 : ((n : Int) % 4 != 0) = false := by rw [show (n : Int) % 4 = 0 by omega]; rfl
    have H := Lib.hid h
    have HS := Lib.hid hs
    have HM := Lib.hid hm
    clear h hs
    go_enter Try.func33, Try.ntmps33
    go_wp2_with fail
    go_loopw [4, 5] (fun vo vi wr => ∃ g i : Nat, i = 4 * g ∧ vi = .int .i64 i ∧ i ≤ n ∧ RowB wr w.heap.size vo (po L i) ∧ (∀ j, j < i → Four (L.getD j (0, 0))) ∧ Frm No w wr) (fun _ vi _ => n - (intOf vi).toNat)
    case atStart => exact ⟨0, 0, rfl, rfl, by omega, World.ownsRow_nil _ _ _ _, fun j hj => absurd hj (by omega), Frm.refl _ _⟩
    case round =>
      obtain ⟨g, i, hg, rfl, hin, hR, h4, hF⟩ := hrel
      have i0' : (0 : Int) ≤ (i : Int) := Int.natCast_nonneg _
      have H4 := Lib.hid h4
      have HG := Lib.hid hg
      clear h4 hg hm
      by_cases hlt : i < n
      · have i1 : (i : Int) < (n : Int) := by omega
        have hi4 : i + 4 ≤ n := by have := HG.out; have := HM.out; omega
        obtain ⟨wo, rfl⟩ : ∃ wo, wo = wr := ⟨_, rfl⟩
        go_wp2_with fail
        go_loopw [6, 7] (fun vv vk wr => ∃ t k : Nat, k = i + t ∧ vk = .int .i64 k ∧ t ≤ 4 ∧ vv = .int .u8 (bv L i t : Nat) ∧ (∀ j, j < k → Four (L.getD j (0, 0))) ∧ Frm No wo wr) (fun _ vk _ => i + 4 - (intOf vk).toNat)
        case atStart => exact ⟨0, i, rfl, rfl, by omega, rfl, H4.out, Frm.refl _ _⟩
        case round =>
          obtain ⟨t, k, hk, rfl, ht, rfl, h4, hG⟩ := hrel
          have k0 : (0 : Int) ≤ (k : Int) := Int.natCast_nonneg _
          have K4 := Lib.hid h4
          clear h4
          by_cases ht4 : t < 4
          · have k1 : (k : Int) < (n : Int) := by omega
            have k2 : (k : Int) < (i : Int) + 4 := by omega
            obtain ⟨ad, rfl, -, c0, c1⟩ := ((H.out.frmN hF).frmN hG) k (by omega)
            have hsm := HS.out (L.getD k (0, 0)) (mem_getD (by omega))
            have hp64 := bv_64 L i ht4
            have hbv : bv L i (t + 1) = 4 * bv L i t + bit2 (L.getD (i + t) (0, 0)) := rfl
            rw [← hk] at hbv
            obtain ⟨⟨x, y⟩, hp⟩ : ∃ p, L.getD k (0, 0) = p := ⟨_, rfl⟩
            have HP := Lib.hid hp
            have hmem := mem_getD (L := L) (i := k) (by omega)
            rw [hp] at c0 c1 hsm hbv hmem
            obtain ⟨sx, sy⟩ := hsm
            simp only at c0 c1 sx sy
            have HMEM := Lib.hid hmem
            have SZ := Lib.hid (And.intro (show x.natAbs < 2 ^ 53 by omega) (show y.natAbs < 2 ^ 53 by omega))
            have e1 := cmp_eq x (sg x) (by omega) (by rw [sg_small]; decide)
            have e2 := cmp_eq y (sg y) (by omega) (by rw [sg_small]; decide)
            obtain ⟨P, hP⟩ : ∃ P, bv L i t = P := ⟨_, rfl⟩
            rw [hP] at hbv hp64 ⊢
            have p0 : (0 : Int) ≤ (P : Int) := Int.natCast_nonneg _
            have p1 : (P : Int) < 64 := by omega
            have G := hG.drew
            have c0d : wr.drew.cell? (ad.add (k * 2)) = some (.float .f64 (FI x)) := c0
            have c1d : wr.drew.cell? ⟨(ad.add (k * 2)).block, (ad.add (k * 2)).off + 1, none⟩ = some (.float .f64 (FI y)) := c1
            have TK := Lib.hid (And.intro ht4 (And.intro hk hi4))
            clear hp hmem hP hk
            by_cases h4p : Four (x, y)
            · have e12 : (x = sg x) ∧ (y = sg y) := sg_four.2 h4p
              have d1 : (FloatKind.f64.format.order (FI x) (FI (sg x)) == some .eq) = true := by rw [e1]; exact decide_eq_true e12.1
              have d2 : (FloatKind.f64.format.order (FI y) (FI (sg y)) == some .eq) = true := by rw [e2]; exact decide_eq_true e12.2
              have c3 := cmp_lt x 0 (by omega) (by decide)
              have c4 := cmp_lt y 0 (by omega) (by decide)
              rw [FI_zero] at c3 c4
              have hbit : bit2 (x, y) = (if x < 0 then 2 else 0) + (if y < 0 then 1 else 0) := rfl
              have h4' : ∀ j, j < k + 1 → Four (L.getD j (0, 0)) := fun j hj => by
                by_cases hjk : j = k
                · rw [hjk, HP.out]; exact h4p
                · exact K4.out j (by omega)
              have H4' := Lib.hid h4'
              clear e1 e2 h4' e12 h4p
              by_cases hx : x < 0
              · by_cases hy : y < 0
                · have q1 : (FloatKind.f64.format.order (FI x) 0 == some .lt) = true := by rw [c3]; exact decide_eq_true hx
                  have q2 : (FloatKind.f64.format.order (FI y) 0 == some .lt) = true := by rw [c4]; exact decide_eq_true hy
                  rw [hbit, if_pos hx, if_pos hy] at hbv
                  have HBV := Lib.hid hbv
                  clear hbv c3 c4 hbit hx hy
                  go_wp2_with fail
                  go_region_held3 (fun w' => w'.cell? (ad.add (k * 2)) = some (.float .f64 (FI x)) ∧ w'.cell? ⟨(ad.add (k * 2)).block, (ad.add (k * 2)).off + 1, none⟩ = some (.float .f64 (FI y)))
                    (first | exact ⟨c0, c1⟩ | exact ⟨c0d, c1d⟩)
                    (first
                      | (go_at_call 32; refine (rnear_is _ _ _ SZ.out.1 SZ.out.2).mono ?_; rintro e w8 ⟨rfl, f8⟩; have G := Frm.thenN G f8; have c0 := cell_keep' f8 (by exact c0); have c1 := cell_keep' f8 (by exact c1)))
                  go_wp2_with fail
                  go_roundw
                  case rel => exact ⟨t + 1, k + 1, by have := TK.out.2.1; omega, by go_num, by omega, by rw [HBV.out]; go_num, H4'.out, G⟩
                  case measure => simp [intOf]; omega
                · have q1 : (FloatKind.f64.format.order (FI x) 0 == some .lt) = true := by rw [c3]; exact decide_eq_true hx
                  have q2 : (FloatKind.f64.format.order (FI y) 0 == some .lt) = false := by rw [c4]; exact decide_eq_false hy
                  rw [hbit, if_pos hx, if_neg hy] at hbv
                  have HBV := Lib.hid hbv
                  clear hbv c3 c4 hbit hx hy
                  go_wp2_with fail
                  go_region_held3 (fun w' => w'.cell? (ad.add (k * 2)) = some (.float .f64 (FI x)) ∧ w'.cell? ⟨(ad.add (k * 2)).block, (ad.add (k * 2)).off + 1, none⟩ = some (.float .f64 (FI y)))
                    (first | exact ⟨c0, c1⟩ | exact ⟨c0d, c1d⟩)
                    (first
                      | (go_at_call 32; refine (rnear_is _ _ _ SZ.out.1 SZ.out.2).mono ?_; rintro e w8 ⟨rfl, f8⟩; have G := Frm.thenN G f8; have c0 := cell_keep' f8 (by exact c0); have c1 := cell_keep' f8 (by exact c1)))
                  go_wp2_with fail
                  go_roundw
                  case rel => exact ⟨t + 1, k + 1, by have := TK.out.2.1; omega, by go_num, by omega, by rw [HBV.out]; go_num, H4'.out, G⟩
                  case measure => simp [intOf]; omega
              · by_cases hy : y < 0
                · have q1 : (FloatKind.f64.format.order (FI x) 0 == some .lt) = false := by rw [c3]; exact decide_eq_false hx
                  have q2 : (FloatKind.f64.format.order (FI y) 0 == some .lt) = true := by rw [c4]; exact decide_eq_true hy
                  rw [hbit, if_neg hx, if_pos hy] at hbv
                  have HBV := Lib.hid hbv
                  clear hbv c3 c4 hbit hx hy
                  go_wp2_with fail
                  go_region_held3 (fun w' => w'.cell? (ad.add (k * 2)) = some (.float .f64 (FI x)) ∧ w'.cell? ⟨(ad.add (k * 2)).block, (ad.add (k * 2)).off + 1, none⟩ = some (.float .f64 (FI y)))
                    (first | exact ⟨c0, c1⟩ | exact ⟨c0d, c1d⟩)
                    (first
                      | (go_at_call 32; refine (rnear_is _ _ _ SZ.out.1 SZ.out.2).mono ?_; rintro e w8 ⟨rfl, f8⟩; have G := Frm.thenN G f8; have c0 := cell_keep' f8 (by exact c0); have c1 := cell_keep' f8 (by exact c1)))
                  go_wp2_with fail
                  go_roundw
                  case rel => exact ⟨t + 1, k + 1, by have := TK.out.2.1; omega, by go_num, by omega, by rw [HBV.out]; go_num, H4'.out, G⟩
                  case measure => simp [intOf]; omega
                · have q1 : (FloatKind.f64.format.order (FI x) 0 == some .lt) = false := by rw [c3]; exact decide_eq_false hx
                  have q2 : (FloatKind.f64.format.order (FI y) 0 == some .lt) = false := by rw [c4]; exact decide_eq_false hy
                  rw [hbit, if_neg hx, if_neg hy] at hbv
                  have HBV := Lib.hid hbv
                  clear hbv c3 c4 hbit hx hy
                  go_wp2_with fail
                  go_region_held3 (fun w' => w'.cell? (ad.add (k * 2)) = some (.float .f64 (FI x)) ∧ w'.cell? ⟨(ad.add (k * 2)).block, (ad.add (k * 2)).off + 1, none⟩ = some (.float .f64 (FI y)))
                    (first | exact ⟨c0, c1⟩ | exact ⟨c0d, c1d⟩)
                    (first
                      | (go_at_call 32; refine (rnear_is _ _ _ SZ.out.1 SZ.out.2).mono ?_; rintro e w8 ⟨rfl, f8⟩; have G := Frm.thenN G f8; have c0 := cell_keep' f8 (by exact c0); have c1 := cell_keep' f8 (by exact c1)))
                  go_wp2_with fail
                  go_roundw
                  case rel => exact ⟨t + 1, k + 1, by have := TK.out.2.1; omega, by go_num, by omega, by rw [HBV.out]; go_num, H4'.out, G⟩
                  case measure => simp [intOf]; omega
            · have e12 : ¬ ((x = sg x) ∧ (y = sg y)) := fun h => h4p (sg_four.1 h)
              have hok : okB L = false := decide_eq_false (by
                rintro ⟨-, hall⟩
                exact h4p (hall _ HMEM.out))
              have hE : E = false := by rw [← HE.out, hok]
              have hO : O = [] := by rw [← HO.out]; unfold outB; rw [if_neg (by rw [hok]; decide)]
              subst hE
              subst hO
              by_cases hx : x = sg x
              · have hy : ¬ y = sg y := fun h => e12 ⟨hx, h⟩
                have d1 : (FloatKind.f64.format.order (FI x) (FI (sg x)) == some .eq) = true := by rw [e1]; exact decide_eq_true hx
                have d2 : (FloatKind.f64.format.order (FI y) (FI (sg y)) == some .eq) = false := by rw [e2]; exact decide_eq_false hy
                clear e1 e2 e12 h4p hx hy hbv
                go_wp2_with fail
                go_region_held3 (fun w' => w'.cell? (ad.add (k * 2)) = some (.float .f64 (FI x)) ∧ w'.cell? ⟨(ad.add (k * 2)).block, (ad.add (k * 2)).off + 1, none⟩ = some (.float .f64 (FI y)))
                  (first | exact ⟨c0, c1⟩ | exact ⟨c0d, c1d⟩)
                  (first
                    | (go_at_call 32; refine (rnear_is _ _ _ SZ.out.1 SZ.out.2).mono ?_; rintro e w8 ⟨rfl, f8⟩; have G := Frm.thenN G f8; have c0 := cell_keep' f8 (by exact c0); have c1 := cell_keep' f8 (by exact c1)))
                go_wp2_with fail
                go_ret2
                exact ⟨_, rfl, World.ownsRow_nil _ _ _ _, hF.thenN G⟩
              · have d1 : (FloatKind.f64.format.order (FI x) (FI (sg x)) == some .eq) = false := by rw [e1]; exact decide_eq_false hx
                clear e1 e2 e12 h4p hx hbv
                go_wp2_with fail
                go_region_held3 (fun w' => w'.cell? (ad.add (k * 2)) = some (.float .f64 (FI x)) ∧ w'.cell? ⟨(ad.add (k * 2)).block, (ad.add (k * 2)).off + 1, none⟩ = some (.float .f64 (FI y)))
                  (first | exact ⟨c0, c1⟩ | exact ⟨c0d, c1d⟩)
                  (first
                    | (go_at_call 32; refine (rnear_is _ _ _ SZ.out.1 SZ.out.2).mono ?_; rintro e w8 ⟨rfl, f8⟩; have G := Frm.thenN G f8; have c0 := cell_keep' f8 (by exact c0); have c1 := cell_keep' f8 (by exact c1)))
                go_wp2_with fail
                go_ret2
                exact ⟨_, rfl, World.ownsRow_nil _ _ _ _, hF.thenN G⟩
          · have ht44 : t = 4 := by omega
            subst ht44
            have k2 : ¬ (k : Int) < (i : Int) + 4 := by omega
            have hpo : po L (i + 4) = po L i ++ [bv L i 4] := by rw [HG.out]; exact po_four L g
            have hb8 := bv_lt L i 4
            have hR0 := own_frm hR hG (fun _ _ _ h => h)
            have hF2 := hF.thenN hG
            have hpl : (po L i).length ≤ 100000 := by rw [po_len]; omega
            have hsz := hF2.size
            obtain ⟨P, hP⟩ : ∃ P, bv L i 4 = P := ⟨_, rfl⟩
            rw [hP] at hpo hb8 ⊢
            have HPO := Lib.hid hpo
            have HK := Lib.hid (And.intro hk hi4)
            clear hpo hP hk
            go_wp2_with (at_builtin; go_must (refine wpList_append_lies _ rfl _ _ 33 rfl w.heap.size 5 i0 _ 1 1 Try.underlying33 hi hz0 hz1 hz2 rfl (by omega) _ (po L i).length ((po L i).map by8) rfl (hR0.alloc _) ⟨wr.heap.size, 0, none⟩ 1 1 [.int .u8 (P : Int)] rfl rfl (World.news_of_block (cs := #[.int .u8 (P : Int)]) (t := 5) (fr := (0, 0)) (heap_alloc_new wr _)) (by simp [Value.oneCell']) (by omega) (by unfold maxLen; omega) (by omega) (by simp; omega) (wr.heap.size + 1) (by simp) ?_; intro gg cap w3 hown3 hgrow3 hat3 hlt3; obtain ⟨r1, r2⟩ := rowB_push (p := P) hR0 hF2 hown3 hgrow3))
            go_roundw
            case rel => exact ⟨g + 1, i + 4, by have := HG.out; omega, by go_num, by omega, by rw [HPO.out]; exact r1, by have := HK.out.1; rw [← this]; exact K4.out, r2⟩
            case measure => simp [intOf]; omega
      · have i1 : ¬ (i : Int) < (n : Int) := by omega
        have hii : i = n := by omega
        subst hii
        have hok : okB L = true := decide_eq_true ⟨by have := HM.out; omega, fun p hp => by
          obtain ⟨j, hj, rfl⟩ := List.getElem_of_mem hp
          have := H4.out j (by omega)
          rwa [List.getD_eq_getElem?_getD, List.getElem?_eq_getElem hj] at this⟩
        have hout : outB L = po L i := by unfold outB; rw [if_pos hok, hL]
        go_wp2_with fail
        go_ret2
        obtain rfl : E = true := by rw [← HE.out, hok]
        obtain rfl : O = po L i := by rw [← HO.out, hout]
        exact ⟨_, rfl, hR, hF⟩
  · have d0 : ((n : Int) % 4 != 0) = true := by rw [bne_iff_ne]; omega
    have hok : okB L = false := decide_eq_false (by rintro ⟨h, -⟩; omega)
    have hout : outB L = [] := by unfold outB; rw [if_neg (by rw [hok]; decide)]
    obtain rfl : E = false := by rw [← HE.out, hok]
    obtain rfl : O = [] := by rw [← HO.out, hout]
    clear h hs
    go_enter Try.func33, Try.ntmps33
    go_wp2_with fail
    go_ret2
    exact ⟨_, rfl, World.ownsRow_nil _ _ _ _, Frm.refl _ _⟩
end Go.Proofs.Ytcdjofneijlbgaa.A
