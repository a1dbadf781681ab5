/- Back of points. -/
import Derived.Test.YtcdjofneijlbgaaB
import Derived.Test.YtcdjofneijlbgaaNB
namespace Go.Proofs.Ytcdjofneijlbgaa.A
open Go.RowKit Go.Proofs.Ytcdjofneijlbgaa.K Go.Proofs.Ytcdjofneijlbgaa.F Go.Proofs.Ytcdjofneijlbgaa.N
set_option linter.unusedVariables false
set_option linter.unusedSimpArgs false

theorem info5 : (Try.prog.info? 5).map (fun i => (i.zero, i.size, i.bytes)) = some (some (.int .u8 0), 1, 1) := by kernel_rfl
def by8 (n : Nat) : Value := .int .u8 (n : Int)
def RowB (w : World) (B : Nat) (v : Value) (L : List Nat) : Prop := w.ownsRow B 5 1 v L.length (L.map by8)
theorem rowB_push {w W w3 : World} {gg cap : Nat} {p : Nat} {l : List Nat} {vo : Value} {o : Obj} (hR : RowB W w.heap.size vo l) (hF : Frm No w W)
    (hown : w3.ownsRow w.heap.size 5 1 (.slice (some ⟨gg, 0, none⟩) (l.length + 1) cap) (l.length + 1) (l.map by8 ++ [by8 p])) (hg : (W.alloc o).grownBy w3 vo.ownBlock) :
    RowB w3 w.heap.size (.slice (some ⟨gg, 0, none⟩) (l.length + 1) cap) (l ++ [p]) ∧ Frm No w w3 := by
  have hR' : (W.alloc o).ownsRow w.heap.size 5 1 vo l.length (l.map by8) := World.ownsRow.alloc hR o
  refine ⟨?_, (hF.alloc o).grown hg (fun q e => .inr (own_blk hR' e).1)⟩
  unfold RowB
  rw [List.map_append, List.length_append, List.length_singleton]; exact hown

theorem or_all : ((List.range 64).all fun x => (bits .or .u8 ((4 * x : Nat) : Int) 2 == ((4 * x + 2 : Nat) : Int)) && (bits .or .u8 ((4 * x : Nat) : Int) 1 == ((4 * x + 1 : Nat) : Int)) && (bits .or .u8 ((4 * x + 2 : Nat) : Int) 1 == ((4 * x + 3 : Nat) : Int))) = true := by decide +kernel
theorem or_is {x : Nat} (h : x < 64) : bits .or .u8 ((x : Int) * 4) 2 = (x : Int) * 4 + 2 ∧ bits .or .u8 ((x : Int) * 4) 1 = (x : Int) * 4 + 1 ∧ bits .or .u8 ((x : Int) * 4 + 2) 1 = (x : Int) * 4 + 3 := by
  have := List.all_eq_true.1 or_all x (List.mem_range.2 h)
  simp only [Bool.and_eq_true, beq_iff_eq] at this
  obtain ⟨⟨h1, h2⟩, h3⟩ := this
  push_cast at h1 h2 h3
  rw [Int.mul_comm]
  exact ⟨h1, h2, h3⟩

set_option maxRecDepth 100000 in
set_option maxHeartbeats 2000000 in
theorem back_ok (w : World) (A : Option Addr) (n c : Nat) (L : List Pt) (hL : L.length = n) (hn : n ≤ 100000) (h : RdC w A L) (hs : Sml L) :
    Calls Try.prog 30 #[.slice A n c] w fun e w' => ∃ v, e = .returned (.tuple #[v, .int .i64 (if okB L = true then 0 else 3)]) ∧ RowB w' w.heap.size v (outB L) ∧ Frm No w w' := by
  obtain ⟨i0, hi, hz0, hz1, hz2⟩ := info_parts info5
  obtain ⟨E, hE⟩ : ∃ E : Int, (if okB L = true then 0 else 3) = E := ⟨_, rfl⟩
  obtain ⟨O, hO⟩ : ∃ O, outB L = O := ⟨_, rfl⟩
  rw [hE, hO]
  have HE := Lib.hid hE
  have HO := Lib.hid hO
  clear hE hO
  by_cases hm : n % 4 = 0
  · have d0 : ((n : Int) % 4 != 0) = false := by rw [show (n : Int) % 4 = 0 by omega]; rfl
    have H := Lib.hid h
    have HS := Lib.hid hs
    clear h hs
    go_enter Try.func30, Try.ntmps30
    go_wp2_with fail
    go_loopw [4, 5, 14] (fun vo vv vi wr => ∃ i : Nat, vi = .int .i64 i ∧ i ≤ n ∧ vv = .int .u8 (pv L i : Nat) ∧ RowB wr w.heap.size vo (po L i) ∧ (∀ j, j < i → Four (L.getD j (0, 0))) ∧ Frm No w wr) (fun _ _ vi _ => n - (intOf vi).toNat)
    case atStart => exact ⟨0, rfl, by omega, rfl, World.ownsRow_nil _ _ _ _, fun j hj => absurd hj (by omega), Frm.refl _ _⟩
    case round =>
      obtain ⟨i, rfl, hin, rfl, hR, h4, hF⟩ := hrel
      have i0' : (0 : Int) ≤ (i : Int) := Int.natCast_nonneg _
      by_cases hlt : i < n
      · have hw := (H.out.frmN hF) i (by omega)
        obtain ⟨ad, rfl, -, hcell⟩ := hw
        have hsm := HS.out (L.getD i (0, 0)) (by
          rw [List.getD_eq_getElem?_getD, List.getElem?_eq_getElem (by omega)]; exact List.getElem_mem _)
        have i1 : (i : Int) < (n : Int) := by omega
        have hp64 := pv_64 L i
        have hpv : pv L (i + 1) = if (i + 1) % 4 = 0 then 0 else 4 * pv L i + bit2 (L.getD i (0, 0)) := rfl
        have hpo : po L (i + 1) = if (i + 1) % 4 = 0 then po L i ++ [4 * pv L i + bit2 (L.getD i (0, 0))] else po L i := rfl
        obtain ⟨⟨x, y⟩, hp⟩ : ∃ p, L.getD i (0, 0) = p := ⟨_, rfl⟩
        rw [hp] at hcell hsm hpv hpo
        have hcell' : wr.cell? (ad.add i) = some (.complex .f64 (FI x) (FI y)) := hcell
        obtain ⟨sx, sy⟩ := hsm
        have HP := Lib.hid hp
        clear hcell hp
        have n1 := near_is x y wr (by simp at sx; omega) (by simp at sy; omega)
        have c1 := cmp_eq x (sg x) (by simp at sx; omega) (by rw [sg_small]; decide)
        have c2 := cmp_eq y (sg y) (by simp at sy; omega) (by rw [sg_small]; decide)
        by_cases h4p : Four (x, y)
        · have e12 : (x = sg x) ∧ (y = sg y) := sg_four.2 h4p
          have d1 : (FloatKind.f64.format.order (FI x) (FI (sg x)) == some .eq) = true := by rw [c1]; exact decide_eq_true e12.1
          have d2 : (FloatKind.f64.format.order (FI y) (FI (sg y)) == some .eq) = true := by rw [c2]; exact decide_eq_true e12.2
          have c3 := cmp_lt x 0 (by simp at sx; omega) (by decide)
          have c4 := cmp_lt y 0 (by simp at sy; omega) (by decide)
          rw [FI_zero] at c3 c4
          have hbit : bit2 (x, y) = (if x < 0 then 2 else 0) + (if y < 0 then 1 else 0) := rfl
          obtain ⟨P, hP⟩ : ∃ P, pv L i = P := ⟨_, rfl⟩
          obtain ⟨o1, o2, o3⟩ := or_is hp64
          rw [hP] at hpv hpo hp64 o1 o2 o3
          rw [hP]
          have p0 : (0 : Int) ≤ (P : Int) := Int.natCast_nonneg _
          have p1 : (P : Int) < 64 := by omega
          have hR0 := hR
          unfold RowB at hR0
          have hpl : (po L i).length ≤ 100000 := by rw [po_len]; omega
          have h4' : ∀ j, j < i + 1 → Four (L.getD j (0, 0)) := fun j hj => by
            by_cases hji : j = i
            · rw [hji, HP.out]; exact h4p
            · exact h4 j (by omega)
          have H4 := Lib.hid h4'
          have hsz := hF.size
          have hit : (i : Int).tmod 4 = ((i % 4 : Nat) : Int) := by rw [Int.tmod_eq_emod_of_nonneg (by omega)]; simp
          generalize FI x = fx at *
          generalize FI y = fy at *
          generalize FI (sg x) = fsx at *
          generalize FI (sg y) = fsy at *
          clear c1 c2 h4 hP e12 h4p h4'
          by_cases hx : x < 0
          · by_cases hy : y < 0
            · by_cases h3 : i % 4 = 3
              · have q1 : (FloatKind.f64.format.order fx 0 == some .lt) = true := by rw [c3]; exact decide_eq_true hx
                have q2 : (FloatKind.f64.format.order fy 0 == some .lt) = true := by rw [c4]; exact decide_eq_true hy
                rw [hbit, if_pos hx, if_pos hy] at hpv hpo
                rw [if_pos (by omega)] at hpv hpo
                have d3 : ((i : Int) % 4 == 3) = true := beq_iff_eq.2 (by omega)
                have HPV := Lib.hid hpv
                have HPO := Lib.hid hpo
                clear hpv hpo c3 c4 hbit hit hx hy h3
                go_wp2_with fail
                refine n1.mono ?_
                rintro e w2 ⟨rfl, rfl⟩
                go_wp2_with (at_builtin; go_must (refine wpList_append_lies _ rfl _ _ 33 rfl w.heap.size 5 i0 _ 1 1 Try.underlying33 hi hz0 hz1 hz2 rfl (by omega) _ (po L i).length ((po L i).map by8) rfl (hR0.alloc _) ⟨w2.heap.size, 0, none⟩ 1 1 [.int .u8 ((P : Int) * 4 + 3)] rfl rfl (World.news_of_block (cs := #[.int .u8 ((P : Int) * 4 + 3)]) (t := 5) (fr := (0, 0)) (heap_alloc_new w2 _)) (by simp [Value.oneCell']) (by omega) (by unfold maxLen; omega) (by omega) (by simp; omega) (w2.heap.size + 1) (by simp) ?_; intro gg cap w3 hown3 hgrow3 hat3 hlt3; obtain ⟨r1, r2⟩ := rowB_push (p := 4 * P + (2 + 1)) hR hF (by simpa [by8, Int.add_assoc, Int.mul_comm] using hown3) hgrow3))
                go_roundw
                case rel => exact ⟨i + 1, by go_num, by omega, by rw [HPV.out]; rfl, by rw [HPO.out]; exact r1, H4.out, r2⟩
                case measure => simp [intOf]; omega
              · have q1 : (FloatKind.f64.format.order fx 0 == some .lt) = true := by rw [c3]; exact decide_eq_true hx
                have q2 : (FloatKind.f64.format.order fy 0 == some .lt) = true := by rw [c4]; exact decide_eq_true hy
                rw [hbit, if_pos hx, if_pos hy] at hpv hpo
                rw [if_neg (by omega)] at hpv hpo
                have d3 : ((i : Int) % 4 == 3) = false := beq_eq_false_iff_ne.2 (by omega)
                have HPV := Lib.hid hpv
                have HPO := Lib.hid hpo
                clear hpv hpo c3 c4 hbit hit hx hy h3
                go_wp2_with fail
                refine n1.mono ?_
                rintro e w2 ⟨rfl, rfl⟩
                go_wp2_with fail
                go_roundw
                case rel => exact ⟨i + 1, by go_num, by omega, by rw [HPV.out]; go_num, by rw [HPO.out]; exact hR, H4.out, hF⟩
                case measure => simp [intOf]; omega
            · by_cases h3 : i % 4 = 3
              · have q1 : (FloatKind.f64.format.order fx 0 == some .lt) = true := by rw [c3]; exact decide_eq_true hx
                have q2 : (FloatKind.f64.format.order fy 0 == some .lt) = false := by rw [c4]; exact decide_eq_false hy
                rw [hbit, if_pos hx, if_neg hy] at hpv hpo
                rw [if_pos (by omega)] at hpv hpo
                have d3 : ((i : Int) % 4 == 3) = true := beq_iff_eq.2 (by omega)
                have HPV := Lib.hid hpv
                have HPO := Lib.hid hpo
                clear hpv hpo c3 c4 hbit hit hx hy h3
                go_wp2_with fail
                refine n1.mono ?_
                rintro e w2 ⟨rfl, rfl⟩
                go_wp2_with (at_builtin; go_must (refine wpList_append_lies _ rfl _ _ 33 rfl w.heap.size 5 i0 _ 1 1 Try.underlying33 hi hz0 hz1 hz2 rfl (by omega) _ (po L i).length ((po L i).map by8) rfl (hR0.alloc _) ⟨w2.heap.size, 0, none⟩ 1 1 [.int .u8 ((P : Int) * 4 + 2)] rfl rfl (World.news_of_block (cs := #[.int .u8 ((P : Int) * 4 + 2)]) (t := 5) (fr := (0, 0)) (heap_alloc_new w2 _)) (by simp [Value.oneCell']) (by omega) (by unfold maxLen; omega) (by omega) (by simp; omega) (w2.heap.size + 1) (by simp) ?_; intro gg cap w3 hown3 hgrow3 hat3 hlt3; obtain ⟨r1, r2⟩ := rowB_push (p := 4 * P + (2 + 0)) hR hF (by simpa [by8, Int.add_assoc, Int.mul_comm] using hown3) hgrow3))
                go_roundw
                case rel => exact ⟨i + 1, by go_num, by omega, by rw [HPV.out]; rfl, by rw [HPO.out]; exact r1, H4.out, r2⟩
                case measure => simp [intOf]; omega
              · have q1 : (FloatKind.f64.format.order fx 0 == some .lt) = true := by rw [c3]; exact decide_eq_true hx
                have q2 : (FloatKind.f64.format.order fy 0 == some .lt) = false := by rw [c4]; exact decide_eq_false hy
                rw [hbit, if_pos hx, if_neg hy] at hpv hpo
                rw [if_neg (by omega)] at hpv hpo
                have d3 : ((i : Int) % 4 == 3) = false := beq_eq_false_iff_ne.2 (by omega)
                have HPV := Lib.hid hpv
                have HPO := Lib.hid hpo
                clear hpv hpo c3 c4 hbit hit hx hy h3
                go_wp2_with fail
                refine n1.mono ?_
                rintro e w2 ⟨rfl, rfl⟩
                go_wp2_with fail
                go_roundw
                case rel => exact ⟨i + 1, by go_num, by omega, by rw [HPV.out]; go_num, by rw [HPO.out]; exact hR, H4.out, hF⟩
                case measure => simp [intOf]; omega
          · by_cases hy : y < 0
            · by_cases h3 : i % 4 = 3
              · have q1 : (FloatKind.f64.format.order fx 0 == some .lt) = false := by rw [c3]; exact decide_eq_false hx
                have q2 : (FloatKind.f64.format.order fy 0 == some .lt) = true := by rw [c4]; exact decide_eq_true hy
                rw [hbit, if_neg hx, if_pos hy] at hpv hpo
                rw [if_pos (by omega)] at hpv hpo
                have d3 : ((i : Int) % 4 == 3) = true := beq_iff_eq.2 (by omega)
                have HPV := Lib.hid hpv
                have HPO := Lib.hid hpo
                clear hpv hpo c3 c4 hbit hit hx hy h3
                go_wp2_with fail
                refine n1.mono ?_
                rintro e w2 ⟨rfl, rfl⟩
                go_wp2_with (at_builtin; go_must (refine wpList_append_lies _ rfl _ _ 33 rfl w.heap.size 5 i0 _ 1 1 Try.underlying33 hi hz0 hz1 hz2 rfl (by omega) _ (po L i).length ((po L i).map by8) rfl (hR0.alloc _) ⟨w2.heap.size, 0, none⟩ 1 1 [.int .u8 ((P : Int) * 4 + 1)] rfl rfl (World.news_of_block (cs := #[.int .u8 ((P : Int) * 4 + 1)]) (t := 5) (fr := (0, 0)) (heap_alloc_new w2 _)) (by simp [Value.oneCell']) (by omega) (by unfold maxLen; omega) (by omega) (by simp; omega) (w2.heap.size + 1) (by simp) ?_; intro gg cap w3 hown3 hgrow3 hat3 hlt3; obtain ⟨r1, r2⟩ := rowB_push (p := 4 * P + (0 + 1)) hR hF (by simpa [by8, Int.add_assoc, Int.mul_comm] using hown3) hgrow3))
                go_roundw
                case rel => exact ⟨i + 1, by go_num, by omega, by rw [HPV.out]; rfl, by rw [HPO.out]; exact r1, H4.out, r2⟩
                case measure => simp [intOf]; omega
              · have q1 : (FloatKind.f64.format.order fx 0 == some .lt) = false := by rw [c3]; exact decide_eq_false hx
                have q2 : (FloatKind.f64.format.order fy 0 == some .lt) = true := by rw [c4]; exact decide_eq_true hy
                rw [hbit, if_neg hx, if_pos hy] at hpv hpo
                rw [if_neg (by omega)] at hpv hpo
                have d3 : ((i : Int) % 4 == 3) = false := beq_eq_false_iff_ne.2 (by omega)
                have HPV := Lib.hid hpv
                have HPO := Lib.hid hpo
                clear hpv hpo c3 c4 hbit hit hx hy h3
                go_wp2_with fail
                refine n1.mono ?_
                rintro e w2 ⟨rfl, rfl⟩
                go_wp2_with fail
                go_roundw
                case rel => exact ⟨i + 1, by go_num, by omega, by rw [HPV.out]; go_num, by rw [HPO.out]; exact hR, H4.out, hF⟩
                case measure => simp [intOf]; omega
            · by_cases h3 : i % 4 = 3
              · have q1 : (FloatKind.f64.format.order fx 0 == some .lt) = false := by rw [c3]; exact decide_eq_false hx
                have q2 : (FloatKind.f64.format.order fy 0 == some .lt) = false := by rw [c4]; exact decide_eq_false hy
                rw [hbit, if_neg hx, if_neg hy] at hpv hpo
                rw [if_pos (by omega)] at hpv hpo
                have d3 : ((i : Int) % 4 == 3) = true := beq_iff_eq.2 (by omega)
                have HPV := Lib.hid hpv
                have HPO := Lib.hid hpo
                clear hpv hpo c3 c4 hbit hit hx hy h3
                go_wp2_with fail
                refine n1.mono ?_
                rintro e w2 ⟨rfl, rfl⟩
                go_wp2_with (at_builtin; go_must (refine wpList_append_lies _ rfl _ _ 33 rfl w.heap.size 5 i0 _ 1 1 Try.underlying33 hi hz0 hz1 hz2 rfl (by omega) _ (po L i).length ((po L i).map by8) rfl (hR0.alloc _) ⟨w2.heap.size, 0, none⟩ 1 1 [.int .u8 ((P : Int) * 4)] rfl rfl (World.news_of_block (cs := #[.int .u8 ((P : Int) * 4)]) (t := 5) (fr := (0, 0)) (heap_alloc_new w2 _)) (by simp [Value.oneCell']) (by omega) (by unfold maxLen; omega) (by omega) (by simp; omega) (w2.heap.size + 1) (by simp) ?_; intro gg cap w3 hown3 hgrow3 hat3 hlt3; obtain ⟨r1, r2⟩ := rowB_push (p := 4 * P + (0 + 0)) hR hF (by simpa [by8, Int.add_assoc, Int.mul_comm] using hown3) hgrow3))
                go_roundw
                case rel => exact ⟨i + 1, by go_num, by omega, by rw [HPV.out]; rfl, by rw [HPO.out]; exact r1, H4.out, r2⟩
                case measure => simp [intOf]; omega
              · have q1 : (FloatKind.f64.format.order fx 0 == some .lt) = false := by rw [c3]; exact decide_eq_false hx
                have q2 : (FloatKind.f64.format.order fy 0 == some .lt) = false := by rw [c4]; exact decide_eq_false hy
                rw [hbit, if_neg hx, if_neg hy] at hpv hpo
                rw [if_neg (by omega)] at hpv hpo
                have d3 : ((i : Int) % 4 == 3) = false := beq_eq_false_iff_ne.2 (by omega)
                have HPV := Lib.hid hpv
                have HPO := Lib.hid hpo
                clear hpv hpo c3 c4 hbit hit hx hy h3
                go_wp2_with fail
                refine n1.mono ?_
                rintro e w2 ⟨rfl, rfl⟩
                go_wp2_with fail
                go_roundw
                case rel => exact ⟨i + 1, by go_num, by omega, by rw [HPV.out]; go_num, by rw [HPO.out]; exact hR, H4.out, hF⟩
                case measure => simp [intOf]; omega
        · have e12 : ¬ ((x = sg x) ∧ (y = sg y)) := fun h => h4p (sg_four.1 h)
          have d12 : ((FloatKind.f64.format.order (FI x) (FI (sg x)) == some .eq) && (FloatKind.f64.format.order (FI y) (FI (sg y)) == some .eq)) = false := by
            rw [c1, c2, ← Bool.decide_and]; exact decide_eq_false e12
          have hok : okB L = false := decide_eq_false (by
            rintro ⟨-, hall⟩
            have := hall (L.getD i (0, 0)) (by
              rw [List.getD_eq_getElem?_getD, List.getElem?_eq_getElem (by omega)]; exact List.getElem_mem _)
            rw [HP.out] at this
            exact h4p this)
          have hE : E = 3 := by rw [← HE.out, if_neg (by rw [hok]; decide)]
          have hO : O = [] := by rw [← HO.out]; unfold outB; rw [if_neg (by rw [hok]; decide)]
          subst hE
          subst hO
          generalize FI x = fx at *
          generalize FI y = fy at *
          generalize FI (sg x) = fsx at *
          generalize FI (sg y) = fsy at *
          clear c1 c2 h4 e12 h4p hpv hpo
          go_wp2_with fail
          refine n1.mono ?_
          rintro e w2 ⟨rfl, rfl⟩
          go_wp2_with fail
          go_ret2
          exact ⟨_, rfl, World.ownsRow_nil _ _ _ _, hF⟩
      · have i1 : ¬ (i : Int) < (n : Int) := by omega
        have hii : i = n := by omega
        subst hii
        have hok : okB L = true := decide_eq_true ⟨by omega, fun p hp => by
          obtain ⟨j, hj, rfl⟩ := List.getElem_of_mem hp
          have := h4 j (by omega)
          rwa [List.getD_eq_getElem?_getD, List.getElem?_eq_getElem hj] at this⟩
        have hout : outB L = po L i := by unfold outB; rw [if_pos hok, hL]
        go_wp2_with fail
        go_ret2
        obtain rfl : E = 0 := by rw [← HE.out, if_pos hok]
        obtain rfl : O = po L i := by rw [← HO.out, hout]
        exact ⟨_, rfl, hR, hF⟩
  · have d0 : ((n : Int) % 4 != 0) = true := by rw [bne_iff_ne]; omega
    have hok : okB L = false := decide_eq_false (by rintro ⟨h, -⟩; omega)
    have hout : outB L = [] := by unfold outB; rw [if_neg (by rw [hok]; decide)]
    obtain rfl : E = 3 := by rw [← HE.out, if_neg (by rw [hok]; decide)]
    obtain rfl : O = [] := by rw [← HO.out, hout]
    clear h hs
    go_enter Try.func30, Try.ntmps30
    go_wp2_with fail
    go_ret2
    exact ⟨_, rfl, World.ownsRow_nil _ _ _ _, Frm.refl _ _⟩
end Go.Proofs.Ytcdjofneijlbgaa.A
