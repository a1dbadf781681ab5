/- The fixed calls of layer 2 come out as they must; SeqnumTells' walk. -/
import Derived.Test.YtalheackdaianaaF
namespace Go.Proofs.Ytalheackdaianaa.A
open Go.RowKit Go.Proofs.Ytalheackdaianaa.K Go.Proofs.Ytalheackdaianaa.N
set_option linter.unusedVariables false
set_option linter.unusedSimpArgs false

theorem go_is (b x y E N : Int) (w : World) (hE : goE b x y = E) (hN : goN b x y = N) : Calls Try.prog 8 #[.agg #[.int .i64 b], .int .i64 x, .int .i64 y] w fun e w' => e = .returned (.tuple #[.int .i64 N, .int .i64 E]) ∧ Frm No w w' := hE ▸ hN ▸ go_any b x y w
theorem rgo_is (b x y E N : Int) (w : World) (hE : goE b x y = E) (hN : goN b x y = N) : Calls Try.prog 9 #[.int .i64 b, .int .i64 x, .int .i64 y] w fun e w' => e = .returned (.tuple #[.int .i64 N, .int .i64 E]) ∧ w = w' := hE ▸ hN ▸ rgo_any b x y w
theorem in_is (b base size n E : Int) (t : Bool) (w : World) (hE : inE b base size n = E) (hN : inB b base size n = t) : Calls Try.prog 12 #[.agg #[.int .i64 b], .int .i64 base, .int .i64 size, .int .i64 n] w fun e w' => e = .returned (.tuple #[.bool t, .int .i64 E]) ∧ Frm No w w' := hE ▸ hN ▸ in_any b base size n w
theorem rin_is (b base size n E : Int) (t : Bool) (w : World) (hE : inE b base size n = E) (hN : inB b base size n = t) : Calls Try.prog 13 #[.int .i64 b, .int .i64 base, .int .i64 size, .int .i64 n] w fun e w' => e = .returned (.tuple #[.bool t, .int .i64 E]) ∧ w = w' := hE ▸ hN ▸ rin_any b base size n w
theorem less_is (b base x y E : Int) (t : Bool) (w : World) (hE : lessE b base x y = E) (hN : lessB b base x y = t) : Calls Try.prog 22 #[.agg #[.int .i64 b], .int .i64 base, .int .i64 x, .int .i64 y] w fun e w' => e = .returned (.tuple #[.bool t, .int .i64 E]) ∧ Frm No w w' := hE ▸ hN ▸ less_any b base x y w
theorem size_is (b S : Int) (w : World) (h : sz b = S) : Calls Try.prog 16 #[.agg #[.int .i64 b]] w fun e w' => e = .returned (.int .i64 S) ∧ Frm No w w' := h ▸ size_any b w
theorem is_is (b n : Int) (t : Bool) (w : World) (h : decide (0 ≤ n ∧ n < sz b) = t) : Calls Try.prog 18 #[.agg #[.int .i64 b], .int .i64 n] w fun e w' => e = .returned (.bool t) ∧ Frm No w w' := h ▸ is_any b n w

/-- A space in a variable of the law's own. -/
theorem at_box {w w1 w' : World} {g : Nat} {b : Int} (h : Blk w g #[.int .i64 b] 23) (f : Frm No w w1) : Blk w1 g #[.int .i64 b] 23 := f.blk h (fun h => h)

set_option maxRecDepth 100000 in
set_option maxHeartbeats 2000000 in
theorem alive_yes (w : World) : Calls Try.prog 14 #[] w fun e w' => e = .returned (.bool true) ∧ Frm No w w' := by
  go_enter Try.func14, Try.ntmps14
  have b0 := Blk.new w #[.int .i64 5] 23
  have f0 := (Frm.refl No w).alloc (.cells #[.int .i64 5] 23)
  go_wp2_with fail
  refine (go_is 5 31 2 0 1 _ (by decide) (by decide)).mono ?_
  rintro e w1 ⟨rfl, f1⟩
  have b1 := f1.blk b0 (fun h => h)
  have g1 := f0.thenN f1
  have c1 : w1.cell? ⟨w.heap.size, 0, none⟩ = some (.int .i64 5) := b1.cell 0
  clear f1 b0 f0
  go_wp2_with fail
  refine (far_is 5 30 1 0 3 _ (by decide) (by decide)).mono ?_
  rintro e w2 ⟨rfl, f2⟩
  have b2 := f2.blk b1 (fun h => h)
  have g2 := g1.thenN f2
  have c2 : w2.cell? ⟨w.heap.size, 0, none⟩ = some (.int .i64 5) := b2.cell 0
  clear f2 b1 g1 c1
  go_wp2_with fail
  refine (in_is 5 30 4 1 0 true _ (by decide) (by decide)).mono ?_
  rintro e w3 ⟨rfl, f3⟩
  have b3 := f3.blk b2 (fun h => h)
  have g3 := g2.thenN f3
  have c3 : w3.cell? ⟨w.heap.size, 0, none⟩ = some (.int .i64 5) := b3.cell 0
  clear f3 b2 g2 c2
  go_wp2_with fail
  refine (far_is 5 32 1 1 0 _ (by decide) (by decide)).mono ?_
  rintro e w4 ⟨rfl, f4⟩
  have b4 := f4.blk b3 (fun h => h)
  have g4 := g3.thenN f4
  have c4 : w4.cell? ⟨w.heap.size, 0, none⟩ = some (.int .i64 5) := b4.cell 0
  clear f4 b3 g3 c3
  go_wp2_with fail
  refine (between_ok 5 31 1 2 _ (by decide) (by decide) (by omega)).mono ?_
  rintro e w5 ⟨v, rfl, ho, f5⟩
  have g5 := g4.thenN f5
  have hr : run 5 31 2 = [31, 0] := by decide
  rw [hr] at ho
  obtain ⟨A, c, rfl, _, hc⟩ := own_cells ho
  obtain ⟨ad, rfl, hcell⟩ := hc 1 (by simp)
  simp at hcell
  have hcell' : w5.cell? ⟨ad.block, ad.off + 1, none⟩ = some (.int .i64 0) := hcell
  clear hc ho hr f5 b4 c4 g4
  go_wp2_with fail
  go_ret
  exact ⟨rfl, g5⟩

set_option maxRecDepth 100000 in
set_option maxHeartbeats 2000000 in
theorem tells_walk (bits a b by_ size : Int) (w : World) (_ : (Lit.int .i64 bits).wf = true) (_ : (Lit.int .i64 a).wf = true) (_ : (Lit.int .i64 b).wf = true) (_ : (Lit.int .i64 by_).wf = true) (_ : (Lit.int .i64 size).wf = true) :
    Calls Try.prog 3 #[.int .i64 bits, .int .i64 a, .int .i64 b, .int .i64 by_, .int .i64 size] w fun e w' => e = .returned (.bool true) ∧ Frm No w w' := by
  obtain ⟨R1, r1⟩ : ∃ R, goN bits a by_ = R := ⟨_, rfl⟩
  obtain ⟨E1, e1⟩ : ∃ R, goE bits a by_ = R := ⟨_, rfl⟩
  obtain ⟨R2, r2⟩ : ∃ R, farN bits a b = R := ⟨_, rfl⟩
  obtain ⟨E2, e2⟩ : ∃ R, farE bits a b = R := ⟨_, rfl⟩
  obtain ⟨R3, r3⟩ : ∃ R, inB bits a size b = R := ⟨_, rfl⟩
  obtain ⟨E3, e3⟩ : ∃ R, inE bits a size b = R := ⟨_, rfl⟩
  obtain ⟨S, hs⟩ : ∃ R, sz bits = R := ⟨_, rfl⟩
  obtain ⟨T, ht⟩ : ∃ R, decide (0 ≤ a ∧ a < sz bits) = R := ⟨_, rfl⟩
  have HR1 := Lib.hid r1
  have HE1 := Lib.hid e1
  have HR2 := Lib.hid r2
  have HE2 := Lib.hid e2
  have HR3 := Lib.hid r3
  have HE3 := Lib.hid e3
  have HS := Lib.hid hs
  have HT := Lib.hid ht
  clear r1 e1 r2 e2 r3 e3 hs ht
  have b0 := Blk.new w #[.int .i64 bits] 23
  have f0 := (Frm.refl No w).alloc (.cells #[.int .i64 bits] 23)
  obtain ⟨P, hP⟩ : ∃ P, decide (1 ≤ bits ∧ bits ≤ 16) = P := ⟨_, rfl⟩
  have key : ∀ (P1 P2 : Bool), P1 = decide (1 ≤ bits) → P2 = decide (bits ≤ 16) → Calls Try.prog 3 #[.int .i64 bits, .int .i64 a, .int .i64 b, .int .i64 by_, .int .i64 size] w fun e w' => e = .returned (.bool true) ∧ Frm No w w' := by
    intro P1 P2 h1 h2
    have HP : Hid (P = (P1 && P2)) := by
      show P = _
      rw [← hP, h1, h2, Bool.decide_and]
    clear hP
    have d1 := h1.symm
    have d2 := h2.symm
    cases P1 <;> cases P2
    · exfalso
      have := of_decide_eq_false d1
      have := of_decide_eq_false d2
      omega
    all_goals simp only [eq_comm (a := true), eq_comm (a := false), decide_eq_true_eq, decide_eq_false_iff_not] at h1 h2
    all_goals
      have hP := HP.out
      simp only [Bool.and_true, Bool.and_false, Bool.true_and, Bool.false_and] at hP
      subst hP
      go_enter Try.func3, Try.ntmps3
      go_wp2_with fail
      refine (go_is bits a by_ E1 R1 _ HE1.out HR1.out).mono ?_
      rintro e w1 ⟨rfl, f1⟩
      have b1 := f1.blk b0 (fun h => h)
      have g1 := f0.thenN f1
      have c1 : w1.cell? ⟨w.heap.size, 0, none⟩ = some (.int .i64 bits) := b1.cell 0
      clear f1 b0 f0
      go_wp2_with fail
      refine (rgo_is bits a by_ E1 R1 _ HE1.out HR1.out).mono ?_
      rintro e w2 ⟨rfl, rfl⟩
      go_wp2_with fail
      refine (far_is bits a b E2 R2 _ HE2.out HR2.out).mono ?_
      rintro e w2 ⟨rfl, f2⟩
      have b2 := f2.blk b1 (fun h => h)
      have g2 := g1.thenN f2
      have c2 : w2.cell? ⟨w.heap.size, 0, none⟩ = some (.int .i64 bits) := b2.cell 0
      clear f2 b1 g1 c1
      go_wp2_with fail
      refine (rfar_is bits a b E2 R2 _ HE2.out HR2.out).mono ?_
      rintro e w3 ⟨rfl, rfl⟩
      go_wp2_with fail
      refine (in_is bits a size b E3 R3 _ HE3.out HR3.out).mono ?_
      rintro e w3 ⟨rfl, f3⟩
      have b3 := f3.blk b2 (fun h => h)
      have g3 := g2.thenN f3
      clear f3 b2 g2 c2
      go_wp2_with fail
      refine (rin_is bits a size b E3 R3 _ HE3.out HR3.out).mono ?_
      rintro e w4 ⟨rfl, rfl⟩
      go_wp2_with fail
      refine (alive_yes _).mono ?_
      rintro e w4 ⟨rfl, f4⟩
      have b4 := f4.blk b3 (fun h => h)
      have g4 := g3.thenN f4
      have c4 : w4.cell? ⟨w.heap.size, 0, none⟩ = some (.int .i64 bits) := b4.cell 0
      clear f4 b3 g3
      go_wp2_with fail
      first
        | refine (right_yes bits _ (by omega) (by omega)).mono ?_
        | refine (right_no bits _ (by omega)).mono ?_
      rintro e w5 ⟨rfl, f5⟩
      have b5 := f5.blk b4 (fun h => h)
      have g5 := g4.thenN f5
      have c5 : w5.cell? ⟨w.heap.size, 0, none⟩ = some (.int .i64 bits) := b5.cell 0
      clear f5 b4 g4 c4
      go_wp2_with fail
      refine (size_is bits S _ HS.out).mono ?_
      rintro e w6 ⟨rfl, f6⟩
      have b6 := f6.blk b5 (fun h => h)
      have g6 := g5.thenN f6
      have c6 : w6.cell? ⟨w.heap.size, 0, none⟩ = some (.int .i64 bits) := b6.cell 0
      clear f6 b5 g5 c5
      go_wp2_with fail
      refine (rsize_is bits S _ HS.out).mono ?_
      rintro e w7 ⟨rfl, rfl⟩
      go_wp2_with fail
      refine (is_is bits a T _ HT.out).mono ?_
      rintro e w7 ⟨rfl, f7⟩
      have g7 := g6.thenN f7
      clear f7 b6 g6 c6
      go_wp2_with fail
      refine (ris_is bits a T _ HT.out).mono ?_
      rintro e w8 ⟨rfl, rfl⟩
      go_wp2_with fail
      go_ret
      exact ⟨rfl, g7⟩
  exact key _ _ rfl rfl
end Go.Proofs.Ytalheackdaianaa.A
