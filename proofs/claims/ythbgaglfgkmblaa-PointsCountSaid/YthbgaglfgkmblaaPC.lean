/- PointsCount's walk. -/
import Derived.Test.YthbgaglfgkmblaaRM
import Derived.Deep.DeepCutAuto
import Derived.Deep.CutBlock
namespace Go.Proofs.Ythbgaglfgkmblaa.A
open Go.RowKit Go.ChangeShapes Go.WideShapes Go.Proofs.Ythbgaglfgkmblaa.K Go.Proofs.Ythbgaglfgkmblaa.F Go.Proofs.Ythbgaglfgkmblaa.N
set_option linter.unusedVariables false
set_option linter.unusedSimpArgs false

theorem eqIn_fl (d a b : Nat) (w : World) : (Op.equalIn (d + 1) 30 (.float .f64 a) (.float .f64 b)).run Try.prog w = .ok (FloatKind.f64.format.order a b == some .eq) w := by
  simp [Op.equalIn, run_underlying Try.underlying30]; rfl
theorem eq_fl (a b : Nat) (w : World) : (Op.equalIn 9999 30 (.float .f64 a) (.float .f64 b)).run Try.prog w = .ok (FloatKind.f64.format.order a b == some .eq) w := eqIn_fl 9998 a b w
theorem cell_keep {w w' : World} {a : Addr} {v : Value} (f : Frm No w w') (h : w.cell? a = some v) : w'.cell? a = some v :=
  (World.cell?_of_block (f.block _ (World.block_lt_of_cell? w _ h) (fun h => h))).trans h
theorem mixL_at (L M : List Pt) : ∀ n i, i < n → (mixL L M n).getD i (0, 0) = ((L.getD i (0, 0)).1 + (M.getD i (0, 0)).1, (L.getD i (0, 0)).2 + (M.getD i (0, 0)).2)
  | 0, i, h => absurd h (by omega)
  | n + 1, i, h => by
    unfold mixL
    by_cases hi : i < n
    · rw [List.getD_eq_getElem?_getD, List.getElem?_append_left (by rw [mixL_len]; exact hi), ← List.getD_eq_getElem?_getD]
      exact mixL_at L M n i hi
    · have : i = n := by omega
      subst this
      rw [List.getD_eq_getElem?_getD, List.getElem?_append_right (by rw [mixL_len]; omega), mixL_len, Nat.sub_self]; rfl
theorem add_at (ad : Addr) (u : Nat) : ad.add (u + 1) = ⟨ad.block, ad.off + (u + 1), none⟩ := by unfold Addr.add; simp

set_option maxRecDepth 100000 in
set_option maxHeartbeats 8000000 in
/-- Behind the first loop: long is told. -/
theorem count_core (A B : Option Addr) (n m c d : Nat) (za zb : List Int) (w : World) (hn : n ≤ 1000) (hm : m ≤ 1000) (hA : Ints w .i8 A n za) (hB : Ints w .i8 B m zb) :
    Calls Try.prog 5 #[.slice A n c, .slice B m d] w fun e w' => e = .returned (.bool true) ∧ Frm No w w' := by
  have hn' : ¬ (1000 : Int) < (n : Int) := by omega
  have hm' : ¬ (1000 : Int) < (m : Int) := by omega
  have lowA := madeL_low hA.2.2.1 (n / 2)
  have lowB := madeL_low hB.2.2.1 (m / 2)
  have lenA := madeL_len za (n / 2)
  have lenB := madeL_len zb (m / 2)
  have atA := madeL_at za (n / 2)
  have atB := madeL_at zb (m / 2)
  have g8 := fun i => i8_getD hA.2.2.1 i
  have g9 := fun i => i8_getD hB.2.2.1 i
  obtain ⟨L, hL⟩ : ∃ L, madeL za (n / 2) = L := ⟨_, rfl⟩
  obtain ⟨M, hM⟩ : ∃ M, madeL zb (m / 2) = M := ⟨_, rfl⟩
  rw [hL] at lowA lenA atA
  rw [hM] at lowB lenB atB
  obtain ⟨N, hN⟩ : ∃ N, n / 2 = N := ⟨_, rfl⟩
  obtain ⟨K, hK⟩ : ∃ K, m / 2 = K := ⟨_, rfl⟩
  have hN2 : 2 * N ≤ n := by omega
  have hK2 : 2 * K ≤ m := by omega
  rw [hN] at lenA atA
  rw [hK] at lenB atB
  have hlnb := lenN_le lowA
  have OL := Lib.hid hL
  have OM := Lib.hid hM
  have LA := Lib.hid lowA
  have LB := Lib.hid lowB
  have TA := Lib.hid atA
  have TB := Lib.hid atB
  have NA := Lib.hid lenA
  have NB := Lib.hid lenB
  have G8 := Lib.hid g8
  have G9 := Lib.hid g9
  have LN := Lib.hid hlnb
  clear lowA lowB atA atB lenA lenB hL hM hN hK g8 g9 hlnb
  go_enter Try.func5, Try.ntmps5
  go_wp2_with fail
  refine (made_ok _ A n c za hA (by omega)).mono ?_
  rintro e w1 ⟨v1, rfl, r1, f1⟩
  rw [OL.out] at r1
  obtain ⟨A1, c1, rfl, d1⟩ := rdC_of r1
  rw [NA.out]
  have IA := Ints.frmN hA f1
  have IB := Ints.frmN hB f1
  clear r1 hA hB
  go_wp2_with fail
  refine (made_ok _ B m d zb IB (by omega)).mono ?_
  rintro e w2 ⟨v2, rfl, r2, f2⟩
  rw [OM.out] at r2
  obtain ⟨A2, c2, rfl, d2⟩ := rdC_of r2
  rw [NB.out]
  have F2 := f1.thenN f2
  have IA := Ints.frmN IA f2
  have IB := Ints.frmN IB f2
  have d1 := d1.frmN f2
  clear r2 f1 f2
  by_cases hNK : N = K
  · subst hNK
    have eNK : ((N : Int) != (N : Int)) = false := bne_self_eq_false _
    go_wp2_with fail
    refine (errors_ok _ A1 A2 N c1 c2 L M NA.out NB.out (by omega) d1 d2 (low_sml LA.out) (low_sml LB.out)).mono ?_
    rintro e w3 ⟨rfl, f3⟩
    have F3 := F2.thenN f3
    have IA := Ints.frmN IA f3
    have IB := Ints.frmN IB f3
    have d1 := d1.frmN f3
    have d2 := d2.frmN f3
    clear F2 f3
    go_wp2_with fail
    refine (mix_ok _ A1 A2 N c1 c2 L M NA.out NB.out (by omega) d1 d2 (low_sml LA.out) (low_sml LB.out)).mono ?_
    rintro e w4 ⟨v4, rfl, r4, f4⟩
    obtain ⟨A4, c4, rfl, d4⟩ := rdC_of r4
    rw [mixL_len]
    have F4 := F3.thenN f4
    have IA := Ints.frmN IA f4
    have IB := Ints.frmN IB f4
    have d1 := d1.frmN f4
    have d2 := d2.frmN f4
    clear F3 f4 r4
    go_wp2_with fail
    refine (length_ok _ A1 N c1 L NA.out (by omega) d1 LA.out).mono ?_
    rintro e w5 ⟨rfl, f5⟩
    have F5 := F4.thenN f5
    have IA := Ints.frmN IA f5
    have IB := Ints.frmN IB f5
    have d1 := d1.frmN f5
    have d2 := d2.frmN f5
    have d4 := d4.frmN f5
    clear F4 f5
    go_wp2_with fail
    go_loopw [13, 14] (fun vl vi wr => ∃ i : Nat, vi = .int .i64 i ∧ i ≤ N ∧ vl = .int .i64 (lenN L i) ∧ Frm No w wr ∧ Ints wr .i8 A n za ∧ Frm No w5 wr) (fun _ vi _ => N - (intOf vi).toNat)
    case atStart => exact ⟨0, rfl, by omega, rfl, F5, by assumption, Frm.refl _ _⟩
    case round =>
      obtain ⟨i, rfl, hi, rfl, F, IA, G⟩ := hrel
      have i0 : (0 : Int) ≤ (i : Int) := Int.natCast_nonneg _
      by_cases hlt : i < N
      · obtain ⟨ad, rfl, -, k1, -⟩ := IA.at_ (j := 2 * i) (by omega)
        obtain ⟨ad', e, -, k2, -⟩ := IA.at_ (j := 2 * i + 1) (by omega)
        obtain rfl : ad = ad' := by injection e
        have hsc : lenN L (i + 1) = lenN L i + ((L.getD i (0, 0)).1 * (L.getD i (0, 0)).1 + (L.getD i (0, 0)).2 * (L.getD i (0, 0)).2) := rfl
        rw [TA.out i hlt] at hsc
        have hb := LN.out i (by rw [NA.out]; omega)
        have x8 := G8.out (2 * i)
        have y8 := G8.out (2 * i + 1)
        rw [add_at] at k2
        obtain ⟨x, hx⟩ : ∃ x, za.getD (2 * i) 0 = x := ⟨_, rfl⟩
        obtain ⟨y, hy⟩ : ∃ y, za.getD (2 * i + 1) 0 = y := ⟨_, rfl⟩
        rw [hx] at k1 x8 hsc
        rw [hy] at k2 y8 hsc
        simp only at hsc
        obtain ⟨l, hl⟩ : ∃ l, lenN L i = l := ⟨_, rfl⟩
        rw [hl] at hsc hb ⊢
        have HSC := Lib.hid hsc
        obtain ⟨qx0, qx1⟩ := sq_le (x := x) (by omega)
        obtain ⟨qy0, qy1⟩ := sq_le (x := y) (by omega)
        obtain ⟨hb0, hb1⟩ := hb
        have i1 : (i : Int) < (N : Int) := by omega
        have hN5 : (N : Int) ≤ 500 := by omega
        have j1 : 2 * (i : Int) < (n : Int) := by omega
        have j2 : 2 * (i : Int) + 1 < (n : Int) := by omega
        have j3 : (0 : Int) ≤ 2 * (i : Int) := by omega
        have j4 : (0 : Int) ≤ 2 * (i : Int) + 1 := by omega
        have j5 : IntKind.i64.wrap (2 * (i : Int)) = 2 * (i : Int) := IntWalk.i64_in _ ⟨by omega, by omega⟩
        have j6 : IntKind.i64.wrap (2 * (i : Int) + 1) = 2 * (i : Int) + 1 := IntWalk.i64_in _ ⟨by omega, by omega⟩
        have j7 : (2 * (i : Int)).toNat = 2 * i := by omega
        have j8 : (2 * (i : Int) + 1).toNat = 2 * i + 1 := by omega
        clear hsc hl hx hy e
        go_wp2_with fail
        go_quiet (fail)
        clear j5 j6 j7 j8
        go_wp2_with fail
        go_roundw
        case rel => exact ⟨i + 1, by go_num, by omega, by rw [HSC.out, Int.add_assoc], F.drewN _, IA, G.drewN _⟩
        case measure => simp [intOf]; omega
      · have i1 : ¬ (i : Int) < (N : Int) := by omega
        have hiN : i = N := by omega
        subst hiN
        have el : (lenN L i != lenN L i) = false := bne_self_eq_false _
        have ei : ((i : Int) != (i : Int)) = false := bne_self_eq_false _
        have d1 := d1.frmN G
        have d2 := d2.frmN G
        have d4 := d4.frmN G
        have IB := Ints.frmN IB G
        have hi5 : i ≤ 500 := by omega
        clear G eNK
        obtain ⟨wo, rfl⟩ : ∃ wo, wo = wr := ⟨_, rfl⟩
        go_wp2_with fail
        go_loopw [17, 18] (fun vk vj wr => ∃ j : Nat, vj = .int .i64 j ∧ j ≤ i ∧ vk = .int .i64 (en L M j : Nat) ∧ Frm No w wr ∧ Frm No wo wr) (fun _ vj _ => i - (intOf vj).toNat)
        case atStart => exact ⟨0, rfl, by omega, rfl, F, Frm.refl _ _⟩
        case round =>
          obtain ⟨j, rfl, hj, rfl, F, G⟩ := hrel
          have j0 : (0 : Int) ≤ (j : Int) := Int.natCast_nonneg _
          by_cases hlt : j < i
          · have i1 : (j : Int) < (i : Int) := by omega
            have hen : en L M (j + 1) = en L M j + (if nearp (L.getD j (0, 0)) = nearp (M.getD j (0, 0)) then 0 else 1) := rfl
            rw [TA.out j hlt, TB.out j hlt] at hen
            have hle := en_le L M j
            have x8 := G8.out (2 * j)
            have y8 := G8.out (2 * j + 1)
            have u8 := G9.out (2 * j)
            have v8 := G9.out (2 * j + 1)
            have atA := TA.out j hlt
            have atB := TB.out j hlt
            have atX := mixL_at L M i j hlt
            rw [atA, atB] at atX
            have IAd := IA.at_ (j := 2 * j) (by omega)
            have IAd1 := IA.at_ (j := 2 * j + 1) (by omega)
            have IBd := IB.at_ (j := 2 * j) (by omega)
            have IBd1 := IB.at_ (j := 2 * j + 1) (by omega)
            have heq := eq_fl
            obtain ⟨x, hx⟩ : ∃ x, za.getD (2 * j) 0 = x := ⟨_, rfl⟩
            obtain ⟨y, hy⟩ : ∃ y, za.getD (2 * j + 1) 0 = y := ⟨_, rfl⟩
            obtain ⟨u, hu⟩ : ∃ u, zb.getD (2 * j) 0 = u := ⟨_, rfl⟩
            obtain ⟨v, hv⟩ : ∃ v, zb.getD (2 * j + 1) 0 = v := ⟨_, rfl⟩
            rw [hx, hy] at atA atX hen
            rw [hu, hv] at atB atX hen
            rw [hx] at x8 IAd
            rw [hy] at y8 IAd1
            rw [hu] at u8 IBd
            rw [hv] at v8 IBd1
            obtain ⟨en1, hen1⟩ : ∃ e, en L M (j + 1) = e := ⟨_, rfl⟩
            rw [hen1] at hen
            have HEN1 := Lib.hid hen1
            obtain ⟨cn, hcn⟩ : ∃ cn, en L M j = cn := ⟨_, rfl⟩
            rw [hcn] at hle hen ⊢
            have hi5' : (i : Int) ≤ 500 := by omega
            clear hx hy hu hv hcn hen1
            go_upto_region 23 with fail
            go_cut [130] (fun vc wx => vc = .bool (!decide (nearp (x, y) = nearp (u, v))) ∧ Frm No w wx ∧ Frm No wo wx)
            case first =>
              obtain ⟨ad1, rfl, -, k1⟩ := (d1.frmN G) j (by rw [NA.out]; exact hlt)
              obtain ⟨ad2, rfl, -, k2⟩ := (d2.frmN G) j (by rw [NB.out]; exact hlt)
              rw [atA] at k1
              rw [atB] at k2
              simp only [cx] at k1 k2
              have SZ := Lib.hid (And.intro x8 (And.intro y8 (And.intro u8 v8)))
              have nb : ∀ p q : Int, (p = x ∧ q = y) ∨ (p = u ∧ q = v) → p.natAbs < 2 ^ 53 ∧ q.natAbs < 2 ^ 53 := fun p q e => by
                obtain ⟨s1, s2, s3, s4⟩ := SZ.out
                rcases e with ⟨rfl, rfl⟩ | ⟨rfl, rfl⟩ <;> omega
              have NBD := Lib.hid nb
              have c1 := cmp_eq (sg x) (sg u) (by rw [sg_small]; decide) (by rw [sg_small]; decide)
              have c2 := cmp_eq (sg y) (sg v) (by rw [sg_small]; decide) (by rw [sg_small]; decide)
              have F := F.drew
              have G := G.drew
              clear nb x8 y8 u8 v8 IAd IAd1 IBd IBd1 atA atB atX
              by_cases hsame : nearp (x, y) = nearp (u, v)
              · have dd : (!decide (nearp (x, y) = nearp (u, v))) = false := by rw [decide_eq_true hsame]; rfl
                have HDD := Lib.hid dd
                unfold nearp at hsame
                injection hsame with e1 e2
                have q1 : (FloatKind.f64.format.order (FI (sg x)) (FI (sg u)) == some .eq) = true := by rw [c1]; exact decide_eq_true e1
                have q2 : (FloatKind.f64.format.order (FI (sg y)) (FI (sg v)) == some .eq) = true := by rw [c2]; exact decide_eq_true e2
                clear c1 c2 e1 e2 hen dd
                go_wp2_with fail
                go_region_held3 (fun w' => w'.cell? (ad1.add j) = some (.complex .f64 (FI x) (FI y)) ∧ w'.cell? (ad2.add j) = some (.complex .f64 (FI u) (FI v)))
                  (first | go_keep)
                  (first
                    | (go_at_call 11; refine (as_is _ _ _).mono ?_; rintro e w8 ⟨rfl, f8⟩; have F := Frm.thenN F f8; have G := Frm.thenN G f8; have k1 := cell_keep f8 (by exact k1); have k2 := cell_keep f8 (by exact k2))
                    | (go_at_call 15; refine (rnear_is _ _ _ ?_ ?_).mono ?_; exact (NBD.out _ _ (by first | exact .inl ⟨rfl, rfl⟩ | exact .inr ⟨rfl, rfl⟩)).1; exact (NBD.out _ _ (by first | exact .inl ⟨rfl, rfl⟩ | exact .inr ⟨rfl, rfl⟩)).2; rintro e w8 ⟨rfl, f8⟩; have F := Frm.thenN F f8; have G := Frm.thenN G f8; have k1 := cell_keep f8 (by exact k1); have k2 := cell_keep f8 (by exact k2)))
                go_wp2_with fail
                go_meet
                exact ⟨by rw [HDD.out], F, G⟩
              · have dd : (!decide (nearp (x, y) = nearp (u, v))) = true := by rw [decide_eq_false hsame]; rfl
                have HDD := Lib.hid dd
                have hn12 : ¬ (sg x = sg u ∧ sg y = sg v) := fun h => hsame (by unfold nearp; rw [h.1, h.2])
                clear hen dd
                by_cases e1 : sg x = sg u
                · have e2 : ¬ sg y = sg v := fun h => hn12 ⟨e1, h⟩
                  have q1 : (FloatKind.f64.format.order (FI (sg x)) (FI (sg u)) == some .eq) = true := by rw [c1]; exact decide_eq_true e1
                  have q2 : (FloatKind.f64.format.order (FI (sg y)) (FI (sg v)) == some .eq) = false := by rw [c2]; exact decide_eq_false e2
                  clear c1 c2 e1 e2 hsame hn12
                  go_wp2_with fail
                  go_region_held3 (fun w' => w'.cell? (ad1.add j) = some (.complex .f64 (FI x) (FI y)) ∧ w'.cell? (ad2.add j) = some (.complex .f64 (FI u) (FI v)))
                    (first | go_keep)
                    (first
                      | (go_at_call 11; refine (as_is _ _ _).mono ?_; rintro e w8 ⟨rfl, f8⟩; have F := Frm.thenN F f8; have G := Frm.thenN G f8; have k1 := cell_keep f8 (by exact k1); have k2 := cell_keep f8 (by exact k2))
                      | (go_at_call 15; refine (rnear_is _ _ _ ?_ ?_).mono ?_; exact (NBD.out _ _ (by first | exact .inl ⟨rfl, rfl⟩ | exact .inr ⟨rfl, rfl⟩)).1; exact (NBD.out _ _ (by first | exact .inl ⟨rfl, rfl⟩ | exact .inr ⟨rfl, rfl⟩)).2; rintro e w8 ⟨rfl, f8⟩; have F := Frm.thenN F f8; have G := Frm.thenN G f8; have k1 := cell_keep f8 (by exact k1); have k2 := cell_keep f8 (by exact k2)))
                  go_wp2_with fail
                  go_meet
                  exact ⟨by rw [HDD.out], F, G⟩
                · have q1 : (FloatKind.f64.format.order (FI (sg x)) (FI (sg u)) == some .eq) = false := by rw [c1]; exact decide_eq_false e1
                  clear c1 c2 e1 hsame hn12
                  go_wp2_with fail
                  go_region_held3 (fun w' => w'.cell? (ad1.add j) = some (.complex .f64 (FI x) (FI y)) ∧ w'.cell? (ad2.add j) = some (.complex .f64 (FI u) (FI v)))
                    (first | go_keep)
                    (first
                      | (go_at_call 11; refine (as_is _ _ _).mono ?_; rintro e w8 ⟨rfl, f8⟩; have F := Frm.thenN F f8; have G := Frm.thenN G f8; have k1 := cell_keep f8 (by exact k1); have k2 := cell_keep f8 (by exact k2))
                      | (go_at_call 15; refine (rnear_is _ _ _ ?_ ?_).mono ?_; exact (NBD.out _ _ (by first | exact .inl ⟨rfl, rfl⟩ | exact .inr ⟨rfl, rfl⟩)).1; exact (NBD.out _ _ (by first | exact .inl ⟨rfl, rfl⟩ | exact .inr ⟨rfl, rfl⟩)).2; rintro e w8 ⟨rfl, f8⟩; have F := Frm.thenN F f8; have G := Frm.thenN G f8; have k1 := cell_keep f8 (by exact k1); have k2 := cell_keep f8 (by exact k2)))
                  go_wp2_with fail
                  go_meet
                  exact ⟨by rw [HDD.out], F, G⟩
            case rest =>
              clear F G
              obtain ⟨rfl, F, G⟩ := hcut
              go_upto_if 130 with fail
              go_cut [17] (fun vk wx => vk = .int .i64 (en1 : Nat) ∧ Frm No w wx ∧ Frm No wo wx)
              case first =>
                by_cases hsame : nearp (x, y) = nearp (u, v)
                · have dd : decide (nearp (x, y) = nearp (u, v)) = true := decide_eq_true hsame
                  rw [if_pos hsame] at hen
                  rw [dd]
                  clear hsame dd
                  go_wp2_with fail
                  go_meet
                  exact ⟨by rw [hen]; rfl, F, G⟩
                · have dd : decide (nearp (x, y) = nearp (u, v)) = false := decide_eq_false hsame
                  rw [if_neg hsame] at hen
                  rw [dd]
                  clear hsame dd
                  go_wp2_with fail
                  go_meet
                  exact ⟨by rw [hen]; go_num, F, G⟩
              case rest =>
              clear F G
              obtain ⟨rfl, F, G⟩ := hcut
              obtain ⟨ad4, rfl, -, k4⟩ := (d4.frmN G) j (by rw [mixL_len]; exact hlt)
              rw [atX] at k4
              simp only [cx] at k4
              obtain ⟨adA, rfl, -, a1, -⟩ := IAd
              obtain ⟨ad', e, -, a2, -⟩ := IAd1
              obtain rfl : adA = ad' := by injection e
              obtain ⟨adB, rfl, -, b1, -⟩ := IBd
              obtain ⟨ad', e, -, b2, -⟩ := IBd1
              obtain rfl : adB = ad' := by injection e
              rw [add_at] at a2 b2
              have a1 := cell_keep G a1
              have a2 := cell_keep G a2
              have b1 := cell_keep G b1
              have b2 := cell_keep G b2
              have lA : 2 * (j : Int) < (n : Int) := by omega
              have lA1 : 2 * (j : Int) + 1 < (n : Int) := by omega
              have lB : 2 * (j : Int) < (m : Int) := by omega
              have lB1 : 2 * (j : Int) + 1 < (m : Int) := by omega
              have o1 : (FloatKind.f64.format.order (FI (x + u)) (floatOfInt .f64 (x + u)) == some .eq) = true := by
                rw [FI_of, cmp_eq _ _ (by omega) (by omega)]; simp
              have o2 : (FloatKind.f64.format.order (FI (y + v)) (floatOfInt .f64 (y + v)) == some .eq) = true := by
                rw [FI_of, cmp_eq _ _ (by omega) (by omega)]; simp
              have t1 : IntKind.i64.wrap x = x := IntWalk.i64_in _ ⟨by omega, by omega⟩
              have t2 : IntKind.i64.wrap y = y := IntWalk.i64_in _ ⟨by omega, by omega⟩
              have t3 : IntKind.i64.wrap u = u := IntWalk.i64_in _ ⟨by omega, by omega⟩
              have t4 : IntKind.i64.wrap v = v := IntWalk.i64_in _ ⟨by omega, by omega⟩
              have s1 : IntKind.i64.wrap (x + u) = x + u := IntWalk.i64_in _ ⟨by omega, by omega⟩
              have s2 : IntKind.i64.wrap (y + v) = y + v := IntWalk.i64_in _ ⟨by omega, by omega⟩
              have j3 : (0 : Int) ≤ 2 * (j : Int) := by omega
              have j4 : (0 : Int) ≤ 2 * (j : Int) + 1 := by omega
              have hm9 : (en1 : Int) ≤ 1000 := by
                rw [hen]; split <;> omega
              have F := F.drew
              have G := G.drew
              have j5 : IntKind.i64.wrap (2 * (j : Int)) = 2 * (j : Int) := IntWalk.i64_in _ ⟨by omega, by omega⟩
              have j6 : IntKind.i64.wrap (2 * (j : Int) + 1) = 2 * (j : Int) + 1 := IntWalk.i64_in _ ⟨by omega, by omega⟩
              have j7 : (2 * (j : Int)).toNat = 2 * j := by omega
              have j8 : (2 * (j : Int) + 1).toNat = 2 * j + 1 := by omega
              clear e hen hle atA atB atX
              go_wp2_with fail
              go_region_held3 (fun w' => w'.cell? (ad4.add j) = some (.complex .f64 (FI (x + u)) (FI (y + v))) ∧ w'.cell? (adA.add (2 * j)) = some (.int .i8 x) ∧ w'.cell? ⟨adA.block, adA.off + (2 * j + 1), none⟩ = some (.int .i8 y) ∧ w'.cell? (adB.add (2 * j)) = some (.int .i8 u) ∧ w'.cell? ⟨adB.block, adB.off + (2 * j + 1), none⟩ = some (.int .i8 v))
                (first | go_keep)
                (first
                  | (go_at_call 11; refine (as_is _ _ _).mono ?_; rintro e w8 ⟨rfl, f8⟩; have F := Frm.thenN F f8; have G := Frm.thenN G f8; have k4 := cell_keep f8 (by exact k4); have a1 := cell_keep f8 (by exact a1); have a2 := cell_keep f8 (by exact a2); have b1 := cell_keep f8 (by exact b1); have b2 := cell_keep f8 (by exact b2)))
              clear j5 j6 j7 j8 t1 t2 t3 t4 s1 s2
              go_wp2_with fail
              go_roundw
              case rel => exact ⟨j + 1, by go_num, by omega, by rw [HEN1.out], F, G⟩
              case measure => simp [intOf]; omega
          · have j1 : ¬ (j : Int) < (i : Int) := by omega
            have hji : j = i := by omega
            subst hji
            have ee : ((en L M j : Int) == (en L M j : Int)) = true := by simp
            have ej : ((j : Int) == (j : Int)) = true := by simp
            go_wp2_with fail
            refine (alive_yes _).mono ?_
            rintro e w6 ⟨rfl, f6⟩
            go_wp2_with fail
            go_ret
            exact ⟨rfl, F.thenN f6⟩
  · have eNK : ((N : Int) != (K : Int)) = true := by rw [bne_iff_ne]; omega
    go_wp2_with fail
    refine (errors_no _ A1 A2 N K c1 c2 hNK).mono ?_
    rintro e w3 ⟨rfl, f3⟩
    have F3 := F2.thenN f3
    have IA := Ints.frmN IA f3
    have d1 := d1.frmN f3
    clear F2 f3 d2 IB
    go_wp2_with fail
    refine (mix_no _ A1 A2 N K c1 c2 hNK).mono ?_
    rintro e w4 ⟨rfl, f4⟩
    have F4 := F3.thenN f4
    have IA := Ints.frmN IA f4
    have d1 := d1.frmN f4
    clear F3 f4
    go_wp2_with fail
    refine (length_ok _ A1 N c1 L NA.out (by omega) d1 LA.out).mono ?_
    rintro e w5 ⟨rfl, f5⟩
    have F5 := F4.thenN f5
    have IA := Ints.frmN IA f5
    have d1 := d1.frmN f5
    clear F4 f5
    go_wp2_with fail
    go_loopw [13, 14] (fun vl vi wr => ∃ i : Nat, vi = .int .i64 i ∧ i ≤ N ∧ vl = .int .i64 (lenN L i) ∧ Frm No w wr ∧ Ints wr .i8 A n za) (fun _ vi _ => N - (intOf vi).toNat)
    case atStart => exact ⟨0, rfl, by omega, rfl, F5, by assumption⟩
    case round =>
      obtain ⟨i, rfl, hi, rfl, F, IA⟩ := hrel
      have i0 : (0 : Int) ≤ (i : Int) := Int.natCast_nonneg _
      by_cases hlt : i < N
      · obtain ⟨ad, rfl, -, k1, -⟩ := IA.at_ (j := 2 * i) (by omega)
        obtain ⟨ad', e, -, k2, -⟩ := IA.at_ (j := 2 * i + 1) (by omega)
        obtain rfl : ad = ad' := by injection e
        have hsc : lenN L (i + 1) = lenN L i + ((L.getD i (0, 0)).1 * (L.getD i (0, 0)).1 + (L.getD i (0, 0)).2 * (L.getD i (0, 0)).2) := rfl
        rw [TA.out i hlt] at hsc
        have hb := LN.out i (by rw [NA.out]; omega)
        have x8 := G8.out (2 * i)
        have y8 := G8.out (2 * i + 1)
        rw [add_at] at k2
        obtain ⟨x, hx⟩ : ∃ x, za.getD (2 * i) 0 = x := ⟨_, rfl⟩
        obtain ⟨y, hy⟩ : ∃ y, za.getD (2 * i + 1) 0 = y := ⟨_, rfl⟩
        rw [hx] at k1 x8 hsc
        rw [hy] at k2 y8 hsc
        simp only at hsc
        obtain ⟨l, hl⟩ : ∃ l, lenN L i = l := ⟨_, rfl⟩
        rw [hl] at hsc hb ⊢
        have HSC := Lib.hid hsc
        obtain ⟨qx0, qx1⟩ := sq_le (x := x) (by omega)
        obtain ⟨qy0, qy1⟩ := sq_le (x := y) (by omega)
        obtain ⟨hb0, hb1⟩ := hb
        have i1 : (i : Int) < (N : Int) := by omega
        have hN5 : (N : Int) ≤ 500 := by omega
        have j1 : 2 * (i : Int) < (n : Int) := by omega
        have j2 : 2 * (i : Int) + 1 < (n : Int) := by omega
        have j3 : (0 : Int) ≤ 2 * (i : Int) := by omega
        have j4 : (0 : Int) ≤ 2 * (i : Int) + 1 := by omega
        have j5 : IntKind.i64.wrap (2 * (i : Int)) = 2 * (i : Int) := IntWalk.i64_in _ ⟨by omega, by omega⟩
        have j6 : IntKind.i64.wrap (2 * (i : Int) + 1) = 2 * (i : Int) + 1 := IntWalk.i64_in _ ⟨by omega, by omega⟩
        have j7 : (2 * (i : Int)).toNat = 2 * i := by omega
        have j8 : (2 * (i : Int) + 1).toNat = 2 * i + 1 := by omega
        clear hsc hl hx hy e
        go_wp2_with fail
        go_quiet (fail)
        clear j5 j6 j7 j8
        go_wp2_with fail
        go_roundw
        case rel => exact ⟨i + 1, by go_num, by omega, by rw [HSC.out, Int.add_assoc], F.drewN _, IA⟩
        case measure => simp [intOf]; omega
      · have i1 : ¬ (i : Int) < (N : Int) := by omega
        have hiN : i = N := by omega
        subst hiN
        have el : (lenN L i != lenN L i) = false := bne_self_eq_false _
        go_wp2_with fail
        refine (alive_yes _).mono ?_
        rintro e w6 ⟨rfl, f6⟩
        go_wp2_with fail
        go_ret
        exact ⟨rfl, F.thenN f6⟩
end Go.Proofs.Ythbgaglfgkmblaa.A
