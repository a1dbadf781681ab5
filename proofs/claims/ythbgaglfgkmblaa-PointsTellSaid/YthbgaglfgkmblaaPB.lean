/- PointsBack's walk. -/
import Derived.Test.YthbgaglfgkmblaaG
import Derived.Test.YthbgaglfgkmblaaO
namespace Go.Proofs.Ythbgaglfgkmblaa.A
open Go.RowKit Go.ChangeShapes Go.WideShapes Go.Proofs.Ythbgaglfgkmblaa.K Go.Proofs.Ythbgaglfgkmblaa.F Go.Proofs.Ythbgaglfgkmblaa.N
set_option linter.unusedVariables false
set_option linter.unusedSimpArgs false

theorem qt4 (p : Pt) : qt (qt (qt (qt p))) = p := by obtain ⟨x, y⟩ := p; simp [qt]
theorem turnp_qt : ∀ (k : Nat) (p : Pt), turnp k (qt p) = qt (turnp k p)
  | 0, _ => rfl
  | k + 1, p => by unfold turnp; rw [turnp_qt k]
theorem turnp_add : ∀ (k m : Nat) (p : Pt), turnp k (turnp m p) = turnp (k + m) p
  | 0, m, p => by rw [Nat.zero_add]; rfl
  | k + 1, m, p => by
    rw [show k + 1 + m = (k + m) + 1 by omega]
    unfold turnp
    rw [← turnp_qt, turnp_add k m]
theorem turnp_four4 (p : Pt) : turnp 4 p = p := by unfold turnp turnp turnp turnp turnp; exact qt4 p
theorem turnp_mod (k : Nat) (p : Pt) : turnp (k % 4) p = turnp k p := by
  have key : ∀ q r : Nat, turnp (r + 4 * q) p = turnp r p := by
    intro q
    induction q with
    | zero => intro r; rfl
    | succ q ih =>
      intro r
      rw [show r + 4 * (q + 1) = (r + 4 * q) + 4 by omega, ← turnp_add, turnp_four4, ih]
  conv => rhs; rw [← Nat.mod_add_div k 4]
  exact (key _ _).symm
theorem turn_two (k m : Int) (p : Pt) : turnp (qn m) (turnp (qn k) p) = turnp (qn (k + m)) p := by
  rw [turnp_add, ← turnp_mod]
  congr 1
  unfold qn; omega
theorem turn_zero (k : Int) (h : k % 4 = 0) (p : Pt) : turnp (qn k) p = p := by
  have : qn k = 0 := by unfold qn; omega
  rw [this]; rfl
theorem maps_two (L : List Pt) (k m : Int) : (L.map (turnp (qn k))).map (turnp (qn m)) = L.map (turnp (qn (k + m))) := by
  rw [List.map_map]; exact List.map_congr_left fun p _ => turn_two k m p
theorem maps_zero (L : List Pt) (k : Int) (h : k % 4 = 0) : L.map (turnp (qn k)) = L := by
  conv => rhs; rw [← List.map_id L]
  exact List.map_congr_left fun p _ => turn_zero k h p
theorem four_map {L : List Pt} (h : ∀ p ∈ L, Four p) (k : Int) : ∀ p ∈ L.map (turnp (qn k)), Four p := fun p hp => by
  obtain ⟨q, hq, rfl⟩ := List.mem_map.1 hp
  exact turn_four _ (h q hq)
theorem sml_of {L : List Pt} (h : ∀ p ∈ L, Four p) : Sml L := fun p hp => (h p hp).sml
theorem bytes_lt {zs : List Int} (h : ∀ z ∈ zs, (Lit.int .u8 z).wf = true) : ∀ c ∈ zs.map Int.toNat, c < 256 := fun c hc => by
  obtain ⟨z, hz, rfl⟩ := List.mem_map.1 hc
  have := u8_of (h z hz)
  omega
theorem i8_of {a : Int} (h : (Lit.int .i8 a).wf = true) : -128 ≤ a ∧ a ≤ 127 := by
  simp only [Lit.wf, Bool.and_eq_true, decide_eq_true_eq] at h
  exact h
/-- Equal points, as floats. -/
theorem eq_pt (p : Pt) (h : Four p) : (FloatKind.f64.format.order (FI p.1) (FI p.1) == some .eq) = true ∧ (FloatKind.f64.format.order (FI p.2) (FI p.2) == some .eq) = true := by
  have := h.sml
  exact ⟨by rw [cmp_eq _ _ (by omega) (by omega)]; simp, by rw [cmp_eq _ _ (by omega) (by omega)]; simp⟩

set_option maxRecDepth 100000 in
set_option maxHeartbeats 4000000 in
theorem back_walk (A : Option Addr) (n c : Nat) (zs : List Int) (k m : Int) (w : World) (hI : Ints w .u8 A n zs) (hk : (Lit.int .i8 k).wf = true) (hm : (Lit.int .i8 m).wf = true) :
    Calls Try.prog 4 #[.slice A n c, .int .i8 k, .int .i8 m] w fun e w' => e = .returned (.bool true) ∧ Frm No w w' := by
  have hn9 : n ≤ 9223372036854775807 := hI.2.1
  obtain ⟨k1, k2⟩ := i8_of hk
  obtain ⟨m1, m2⟩ := i8_of hm
  by_cases hn : n ≤ 1000
  · have hn' : ¬ (1000 : Int) < (n : Int) := by omega
    have h4 := ofL_four (zs.map Int.toNat)
    have hlen : (ofL (zs.map Int.toNat)).length = 4 * n := by rw [ofL_len, List.length_map, hI.1]
    have hout := outB_ofL (zs.map Int.toNat) (bytes_lt hI.2.2.1)
    have hok := okB_ofL (zs.map Int.toNat)
    obtain ⟨L, hL⟩ : ∃ L, ofL (zs.map Int.toNat) = L := ⟨_, rfl⟩
    rw [hL] at h4 hlen hout hok
    have hx : (L.map (turnp (qn k))).map (turnp (qn m)) = L.map (turnp (qn (k + m))) := maps_two L k m
    have hz : (L.map (turnp (qn (k + m)))).map (turnp (qn (-k - m))) = L := by
      rw [maps_two, maps_zero]; omega
    have hw4 : L.map (turnp (qn 4)) = L := maps_zero L 4 (by decide)
    have q1 := four_map h4 k
    have q2 := four_map h4 (k + m)
    have hb : bytesS (outB L) = bytesS (zs.map Int.toNat) := by rw [hout]
    obtain ⟨Y, hY⟩ : ∃ Y, L.map (turnp (qn (k + m))) = Y := ⟨_, rfl⟩
    obtain ⟨X1, hX1⟩ : ∃ X, L.map (turnp (qn k)) = X := ⟨_, rfl⟩
    have ly : Y.length = 4 * n := by rw [← hY, List.length_map, hlen]
    have lx : X1.length = 4 * n := by rw [← hX1, List.length_map, hlen]
    rw [hY] at hx hz q2
    rw [hX1] at hx q1
    have O1 := Lib.hid hX1
    have O2 := Lib.hid hx
    have O3 := Lib.hid hz
    have O4 := Lib.hid hw4
    have O5 := Lib.hid hY
    have O6 := Lib.hid hL
    have Q0 := Lib.hid h4
    have Q1 := Lib.hid q1
    have Q2 := Lib.hid q2
    have OK := Lib.hid hok
    have OB := Lib.hid hb
    have OT := Lib.hid hout
    have LL := Lib.hid hlen
    have LX := Lib.hid lx
    have LY := Lib.hid ly
    obtain ⟨N4, hN4⟩ : ∃ N4, 4 * n = N4 := ⟨_, rfl⟩
    rw [hN4] at LL LX LY
    have hN5 : N4 ≤ 4000 := by omega
    clear hX1 hx hz hw4 hY hL h4 q1 q2 hok hb hout hlen lx ly
    go_enter Try.func4, Try.ntmps4
    go_wp2_with fail
    refine (of_ok _ A n c zs hI (by omega)).mono ?_
    rintro e w1 ⟨v1, rfl, r1, f1⟩
    rw [O6.out] at r1
    obtain ⟨A1, c1, rfl, d1⟩ := rdC_of r1
    rw [LL.out]
    have s1 := ints_str (c := c) (Ints.frmN hI f1)
    have I1 := Ints.frmN hI f1
    clear r1 s1 hI
    go_wp2_with fail
    refine (turn_ok _ A1 N4 c1 L k LL.out (by omega) d1 Q0.out).mono ?_
    rintro e w2 ⟨v2, rfl, r2, f2⟩
    rw [O1.out] at r2
    obtain ⟨A2, c2, rfl, d2⟩ := rdC_of r2
    rw [LX.out]
    have F2 := f1.thenN f2
    have I2 := Ints.frmN I1 f2
    have d1 := d1.frmN f2
    clear r2 I1 f1 f2
    go_wp2_with fail
    refine (turn_ok _ A2 N4 c2 X1 m LX.out (by omega) d2 Q1.out).mono ?_
    rintro e w3 ⟨v3, rfl, r3, f3⟩
    rw [O2.out] at r3
    obtain ⟨A3, c3, rfl, d3⟩ := rdC_of r3
    rw [LY.out]
    have F3 := F2.thenN f3
    have I3 := Ints.frmN I2 f3
    have d1 := d1.frmN f3
    clear r3 I2 F2 f3 d2
    go_wp2_with fail
    refine (turn_ok _ A1 N4 c1 L (k + m) LL.out (by omega) d1 Q0.out).mono ?_
    rintro e w4 ⟨v4, rfl, r4, f4⟩
    rw [O5.out] at r4
    obtain ⟨A4, c4, rfl, d4⟩ := rdC_of r4
    rw [LY.out]
    have F4 := F3.thenN f4
    have I4 := Ints.frmN I3 f4
    have d1 := d1.frmN f4
    have d3 := d3.frmN f4
    clear r4 I3 F3 f4
    go_wp2_with fail
    refine (turn_ok _ A3 N4 c3 Y _ LY.out (by omega) d3 Q2.out).mono ?_
    rintro e w5 ⟨v5, rfl, r5, f5⟩
    rw [O3.out] at r5
    obtain ⟨A5, c5, rfl, d5⟩ := rdC_of r5
    rw [LL.out]
    have F5 := F4.thenN f5
    have I5 := Ints.frmN I4 f5
    have d1 := d1.frmN f5
    have d3 := d3.frmN f5
    have d4 := d4.frmN f5
    clear r5 I4 F4 f5
    go_wp2_with fail
    refine (turn_ok _ A1 N4 c1 L 4 LL.out (by omega) d1 Q0.out).mono ?_
    rintro e w6 ⟨v6, rfl, r6, f6⟩
    rw [O4.out] at r6
    obtain ⟨A6, c6, rfl, d6⟩ := rdC_of r6
    rw [LL.out]
    have F6 := F5.thenN f6
    have I6 := Ints.frmN I5 f6
    have d1 := d1.frmN f6
    have d3 := d3.frmN f6
    have d4 := d4.frmN f6
    have d5 := d5.frmN f6
    clear r6 I5 F5 f6
    go_wp2_with fail
    refine (back_ok _ A5 N4 c5 L LL.out (by omega) d5 (sml_of Q0.out)).mono ?_
    rintro e w7 ⟨v7, rfl, r7, f7⟩
    rw [if_pos OK.out]
    obtain ⟨A7, c7, rfl, d7⟩ := rdB_of r7
    obtain ⟨m7, hm7⟩ : ∃ m7, (outB L).length = m7 := ⟨_, rfl⟩
    rw [hm7]
    have t1 := d7.str (c := c7) hm7
    rw [OB.out] at t1
    have F7 := F6.thenN f7
    have t2 := ints_str (c := c) (Ints.frmN I6 f7)
    have d1 := d1.frmN f7
    have d3 := d3.frmN f7
    have d4 := d4.frmN f7
    have d6 := d6.frmN f7
    obtain ⟨st, hst⟩ : ∃ st, bytesS (zs.map Int.toNat) = st := ⟨_, rfl⟩
    rw [hst] at t1 t2
    have e2 : ((N4 : Int) != (N4 : Int)) = false := by simp
    clear r7 I6 F6 f7 d7 hm7 hst d5
    go_wp2_with fail
    go_loopw [14] (fun vi wr => ∃ i : Nat, vi = .int .i64 i ∧ i ≤ N4 ∧ Frm No w7 wr) (fun vi _ => N4 - (intOf vi).toNat)
    case atStart => exact ⟨0, rfl, by omega, Frm.refl _ _⟩
    case round =>
      obtain ⟨i, rfl, hin, hF⟩ := hrel
      have D1 := d1.frmN hF
      have D3 := d3.frmN hF
      have D4 := d4.frmN hF
      have D6 := d6.frmN hF
      have i0' : (0 : Int) ≤ (i : Int) := Int.natCast_nonneg _
      by_cases hlt : i < N4
      · obtain ⟨ad1, rfl, -, k1⟩ := D1 i (by rw [LL.out]; exact hlt)
        obtain ⟨ad3, rfl, -, k3⟩ := D3 i (by rw [LY.out]; exact hlt)
        obtain ⟨ad4, rfl, -, k4⟩ := D4 i (by rw [LY.out]; exact hlt)
        obtain ⟨ad6, rfl, -, k6⟩ := D6 i (by rw [LL.out]; exact hlt)
        have p1 := eq_pt _ (Q0.out _ (mem_getD (L := L) (i := i) (by rw [LL.out]; exact hlt)))
        have p2 := eq_pt _ (Q2.out _ (mem_getD (L := Y) (i := i) (by rw [LY.out]; exact hlt)))
        obtain ⟨⟨x, y⟩, hp⟩ : ∃ p, L.getD i (0, 0) = p := ⟨_, rfl⟩
        obtain ⟨⟨x2, y2⟩, hp2⟩ : ∃ p, Y.getD i (0, 0) = p := ⟨_, rfl⟩
        rw [hp] at k1 k6 p1
        rw [hp2] at k3 k4 p2
        obtain ⟨p1, p1'⟩ := p1
        obtain ⟨p2, p2'⟩ := p2
        simp only [cx] at k1 k3 k4 k6
        simp only at p1 p1' p2 p2'
        generalize FI x = fx at *
        generalize FI y = fy at *
        generalize FI x2 = fx2 at *
        generalize FI y2 = fy2 at *
        have i1 : (i : Int) < (N4 : Int) := by omega
        clear D1 D3 D4 D6 hp hp2 t1 t2
        go_wp2_with fail
        go_quiet (fail)
        go_wp2_with fail
        go_roundw
        case rel => exact ⟨i + 1, by go_num, by omega, hF.drewN _⟩
        case measure => simp [intOf]; omega
      · have i1 : ¬ (i : Int) < (N4 : Int) := by omega
        clear D1 D3 D4 D6 t1 t2
        go_wp2_with fail
        refine (alive_yes _).mono ?_
        rintro e w8 ⟨rfl, f8⟩
        go_wp2_with fail
        go_ret
        exact ⟨rfl, (F7.thenN hF).thenN f8⟩
  · have hn' : (1000 : Int) < (n : Int) := by omega
    clear hI
    go_enter Try.func4, Try.ntmps4
    go_wp2_with fail
    refine (alive_yes _).mono ?_
    rintro e w1 ⟨rfl, f1⟩
    go_wp2_with fail
    go_ret
    exact ⟨rfl, f1⟩

theorem open_u8 {H : Type} {enc : TypeId × Value → H} {w : World} {A : Option Addr} {len cap : Nat} {d : DataW H} {p : List MemPlace}
    (h : DataW.Trod enc Try.prog w 0 (fun _ => true) true 22 (.slice A len cap) d p) : ∃ xs, Ints w .u8 A len xs :=
  open_Ints Try.underlying22 Try.underlying5 (by kernel_rfl) h
theorem open_i8 {H : Type} {enc : TypeId × Value → H} {w : World} {A : Option Addr} {len cap : Nat} {d : DataW H} {p : List MemPlace}
    (h : DataW.Trod enc Try.prog w 0 (fun _ => true) true 23 (.slice A len cap) d p) : ∃ xs, Ints w .i8 A len xs :=
  open_Ints Try.underlying23 Try.underlying45 (by kernel_rfl) h
end Go.Proofs.Ythbgaglfgkmblaa.A
