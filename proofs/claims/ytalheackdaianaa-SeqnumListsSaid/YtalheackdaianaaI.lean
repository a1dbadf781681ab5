/- SeqnumBack's and SeqnumOrder's walks. -/
import Derived.Test.YtalheackdaianaaH
namespace Go.Proofs.Ytalheackdaianaa.A
open Go.RowKit Go.Proofs.Ytalheackdaianaa.K Go.Proofs.Ytalheackdaianaa.N
set_option linter.unusedVariables false
set_option linter.unusedSimpArgs false

theorem em_add (x k S : Int) : (x % S + k) % S = (x + k) % S := by rw [Int.add_emod, Int.emod_emod, ← Int.add_emod]
theorem em_sub {x y S : Int} (hx : 0 ≤ x ∧ x < S) (hy : 0 ≤ y ∧ y < S) : (x ≤ y ∧ (y - x) % S = y - x) ∨ (y < x ∧ (y - x) % S = y - x + S) := by
  by_cases h : x ≤ y
  · exact .inl ⟨h, Int.emod_eq_of_lt (by omega) (by omega)⟩
  · right
    refine ⟨by omega, ?_⟩
    rw [← Int.add_emod_right]
    exact Int.emod_eq_of_lt (by omega) (by omega)

/-- There and back. -/
theorem back_facts {b a y B : Int} (hE : goE b a y = 0) (hB : goN b a y = B) : ∃ S X Y, sz b = S ∧ 2 ≤ S ∧ S ≤ 65536 ∧ 0 ≤ a ∧ a < S ∧ 0 ≤ B ∧ B < S ∧ -65536 ≤ y ∧ y ≤ 65536 ∧
    goE b B (-y) = 0 ∧ goN b B (-y) = a ∧ farE b a B = 0 ∧ farN b a B = X ∧ farE b B a = 0 ∧ farN b B a = Y ∧ goE b a X = 0 ∧ goN b a X = B ∧ 0 ≤ X ∧ X < S ∧ 0 ≤ Y ∧ Y < S ∧ (X + Y = S ∨ X = 0 ∧ Y = 0 ∧ a = B) := by
  have ha : askS b [a] = 0 ∧ -65536 ≤ y ∧ y ≤ 65536 := by
    unfold goE at hE
    split at hE
    · rename_i h
      split at hE
      · simp at hE
      · exact ⟨h, by omega, by omega⟩
    · rename_i h; exact absurd hE h
  obtain ⟨ha, y1, y2⟩ := ha
  obtain ⟨hb, hz⟩ := askS_zero ha
  have hr := sz_range hb
  have hx := hz a (by simp)
  have hBv : B = (a + y) % sz b := by
    rw [← hB]; unfold goN; rw [hE]; rfl
  obtain ⟨S, hS⟩ : ∃ S, sz b = S := ⟨_, rfl⟩
  rw [hS] at hr hx hBv
  have hB0 := Int.emod_nonneg (a + y) (show S ≠ 0 by omega)
  have hB1 := Int.emod_lt_of_pos (a + y) (show 0 < S by omega)
  rw [← hBv] at hB0 hB1
  have hBa : askS b [B] = 0 := by rw [askS_one, if_pos hb, hS, if_pos ⟨hB0, hB1⟩]
  have f1 : farE b a B = 0 := by show askS b [a, B] = 0; rw [askS_two, if_pos hb, hS, if_pos ⟨hx, hB0, hB1⟩]
  have f2 : farE b B a = 0 := by show askS b [B, a] = 0; rw [askS_two, if_pos hb, hS, if_pos ⟨⟨hB0, hB1⟩, hx⟩]
  have g1 : farN b a B = (B - a) % S := by unfold farN; rw [f1, hS]; rfl
  have g2 : farN b B a = (a - B) % S := by unfold farN; rw [f2, hS]; rfl
  have e1 : goE b B (-y) = 0 := by unfold goE; rw [if_pos hBa, if_neg (by omega)]
  have e2 : goN b B (-y) = a := by
    unfold goN; rw [e1, hS]
    show (B + -y) % S = a
    rw [hBv, em_add, show a + y + -y = a by omega]
    exact Int.emod_eq_of_lt hx.1 hx.2
  have s1 := em_sub hx ⟨hB0, hB1⟩
  have s2 := em_sub ⟨hB0, hB1⟩ hx
  have x0 := Int.emod_nonneg (B - a) (show S ≠ 0 by omega)
  have x1 := Int.emod_lt_of_pos (B - a) (show 0 < S by omega)
  have y0 := Int.emod_nonneg (a - B) (show S ≠ 0 by omega)
  have y3 := Int.emod_lt_of_pos (a - B) (show 0 < S by omega)
  have d1 : goE b a ((B - a) % S) = 0 := by unfold goE; rw [if_pos ha, if_neg (by omega)]
  have d2 : goN b a ((B - a) % S) = B := by
    unfold goN; rw [d1, hS]
    show (a + (B - a) % S) % S = B
    rw [Int.add_comm, em_add, show B - a + a = B by omega]
    exact Int.emod_eq_of_lt hB0 hB1
  refine ⟨S, _, _, hS, hr.1, hr.2.1, hx.1, hx.2, hB0, hB1, y1, y2, e1, e2, f1, g1, f2, g2, d1, d2, x0, x1, y0, y3, ?_⟩
  omega

set_option maxRecDepth 100000 in
set_option maxHeartbeats 4000000 in
theorem back_walk (bits a by_ : Int) (w : World) (_ : (Lit.int .i64 bits).wf = true) (_ : (Lit.int .i64 a).wf = true) (_ : (Lit.int .i64 by_).wf = true) :
    Calls Try.prog 4 #[.int .i64 bits, .int .i64 a, .int .i64 by_] w fun e w' => e = .returned (.bool true) ∧ Frm No w w' := by
  have b0 := Blk.new w #[.int .i64 bits] 23
  have f0 := (Frm.refl No w).alloc (.cells #[.int .i64 bits] 23)
  obtain ⟨E, hE⟩ : ∃ E, goE bits a by_ = E := ⟨_, rfl⟩
  by_cases h0 : E = 0
  · subst h0
    obtain ⟨B, hB⟩ : ∃ B, goN bits a by_ = B := ⟨_, rfl⟩
    obtain ⟨S, X, Y, k1, k2, k3, k4, k5, k6, k7, k8, k9, k10, k11, k12, k13, k14, k15, k16, k17, k18, k19, k20, k21, k22⟩ := back_facts hE hB
    have HE := Lib.hid hE
    have HB := Lib.hid hB
    have H1 := Lib.hid k1
    have H10 := Lib.hid k10
    have H11 := Lib.hid k11
    have H12 := Lib.hid k12
    have H13 := Lib.hid k13
    have H14 := Lib.hid k14
    have H15 := Lib.hid k15
    have H16 := Lib.hid k16
    have H17 := Lib.hid k17
    have H22 := Lib.hid k22
    clear hE hB k1 k10 k11 k12 k13 k14 k15 k16 k17 k22
    have hIs : Hid (decide (0 ≤ B ∧ B < sz bits) = true) := by
      show decide (0 ≤ B ∧ B < sz bits) = true
      rw [H1.out]; exact decide_eq_true ⟨k6, k7⟩
    have hcase : (X + Y = S) ∨ (X + Y ≠ S ∧ X = 0 ∧ Y = 0 ∧ a = B) := by have := H22.out; omega
    rcases hcase with hc | ⟨hc, hx0, hy0, hab⟩
    · have hb1 : (X + Y == S) = true := by simpa using hc
      have HC := Lib.hid hc
      clear hc
      go_enter Try.func4, Try.ntmps4
      go_wp2_with fail
      refine (go_is bits a by_ 0 B _ HE.out HB.out).mono ?_
      rintro e w1 ⟨rfl, f1⟩
      have b1 := f1.blk b0 (fun h => h)
      have g1 := f0.thenN f1
      have c1 : w1.cell? ⟨w.heap.size, 0, none⟩ = some (.int .i64 bits) := b1.cell 0
      clear f1 b0 f0
      go_wp2_with fail
      refine (go_is bits B (-by_) 0 a _ H10.out H11.out).mono ?_
      rintro e w2 ⟨rfl, f2⟩
      have b2 := f2.blk b1 (fun h => h)
      have g2 := g1.thenN f2
      have c2 : w2.cell? ⟨w.heap.size, 0, none⟩ = some (.int .i64 bits) := b2.cell 0
      clear f2 b1 g1 c1
      go_wp2_with fail
      refine (far_is bits a B 0 X _ H12.out H13.out).mono ?_
      rintro e w3 ⟨rfl, f3⟩
      have b3 := f3.blk b2 (fun h => h)
      have g3 := g2.thenN f3
      have c3 : w3.cell? ⟨w.heap.size, 0, none⟩ = some (.int .i64 bits) := b3.cell 0
      clear f3 b2 g2 c2
      go_wp2_with fail
      refine (far_is bits B a 0 Y _ H14.out H15.out).mono ?_
      rintro e w4 ⟨rfl, f4⟩
      have b4 := f4.blk b3 (fun h => h)
      have g4 := g3.thenN f4
      have c4 : w4.cell? ⟨w.heap.size, 0, none⟩ = some (.int .i64 bits) := b4.cell 0
      clear f4 b3 g3 c3
      go_wp2_with fail
      refine (go_is bits a X 0 B _ H16.out H17.out).mono ?_
      rintro e w5 ⟨rfl, f5⟩
      have b5 := f5.blk b4 (fun h => h)
      have g5 := g4.thenN f5
      clear f5 b4 g4 c4
      go_wp2_with fail
      refine (alive_yes _).mono ?_
      rintro e w6 ⟨rfl, f6⟩
      have b6 := f6.blk b5 (fun h => h)
      have g6 := g5.thenN f6
      have c6 : w6.cell? ⟨w.heap.size, 0, none⟩ = some (.int .i64 bits) := b6.cell 0
      clear f6 b5 g5
      go_wp2_with fail
      refine (is_is bits B true _ hIs.out).mono ?_
      rintro e w7 ⟨rfl, f7⟩
      have b7 := f7.blk b6 (fun h => h)
      have g7 := g6.thenN f7
      have c7 : w7.cell? ⟨w.heap.size, 0, none⟩ = some (.int .i64 bits) := b7.cell 0
      clear f7 b6 g6 c6
      go_wp2_with fail
      refine (size_is bits S _ H1.out).mono ?_
      rintro e w8 ⟨rfl, f8⟩
      go_wp2_with fail
      go_ret
      exact ⟨rfl, g7.thenN f8⟩
    · subst hx0 hy0 hab
      have hb1 : ((0 : Int) == S) = false := by simp; omega
      have hb2 : ((0 : Int) + 0 == S) = false := hb1
      clear hc
      go_enter Try.func4, Try.ntmps4
      go_wp2_with fail
      refine (go_is bits a by_ 0 a _ HE.out HB.out).mono ?_
      rintro e w1 ⟨rfl, f1⟩
      have b1 := f1.blk b0 (fun h => h)
      have g1 := f0.thenN f1
      have c1 : w1.cell? ⟨w.heap.size, 0, none⟩ = some (.int .i64 bits) := b1.cell 0
      clear f1 b0 f0
      go_wp2_with fail
      refine (go_is bits a (-by_) 0 a _ H10.out H11.out).mono ?_
      rintro e w2 ⟨rfl, f2⟩
      have b2 := f2.blk b1 (fun h => h)
      have g2 := g1.thenN f2
      have c2 : w2.cell? ⟨w.heap.size, 0, none⟩ = some (.int .i64 bits) := b2.cell 0
      clear f2 b1 g1 c1
      go_wp2_with fail
      refine (far_is bits a a 0 0 _ H12.out H13.out).mono ?_
      rintro e w3 ⟨rfl, f3⟩
      have b3 := f3.blk b2 (fun h => h)
      have g3 := g2.thenN f3
      have c3 : w3.cell? ⟨w.heap.size, 0, none⟩ = some (.int .i64 bits) := b3.cell 0
      clear f3 b2 g2 c2
      go_wp2_with fail
      refine (far_is bits a a 0 0 _ H14.out H15.out).mono ?_
      rintro e w4 ⟨rfl, f4⟩
      have b4 := f4.blk b3 (fun h => h)
      have g4 := g3.thenN f4
      have c4 : w4.cell? ⟨w.heap.size, 0, none⟩ = some (.int .i64 bits) := b4.cell 0
      clear f4 b3 g3 c3
      go_wp2_with fail
      refine (go_is bits a 0 0 a _ H16.out H17.out).mono ?_
      rintro e w5 ⟨rfl, f5⟩
      have b5 := f5.blk b4 (fun h => h)
      have g5 := g4.thenN f5
      clear f5 b4 g4 c4
      go_wp2_with fail
      refine (alive_yes _).mono ?_
      rintro e w6 ⟨rfl, f6⟩
      have b6 := f6.blk b5 (fun h => h)
      have g6 := g5.thenN f6
      have c6 : w6.cell? ⟨w.heap.size, 0, none⟩ = some (.int .i64 bits) := b6.cell 0
      clear f6 b5 g5
      go_wp2_with fail
      refine (is_is bits a true _ hIs.out).mono ?_
      rintro e w7 ⟨rfl, f7⟩
      have b7 := f7.blk b6 (fun h => h)
      have g7 := g6.thenN f7
      have c7 : w7.cell? ⟨w.heap.size, 0, none⟩ = some (.int .i64 bits) := b7.cell 0
      clear f7 b6 g6 c6
      go_wp2_with fail
      refine (size_is bits S _ H1.out).mono ?_
      rintro e w8 ⟨rfl, f8⟩
      go_wp2_with fail
      go_ret
      exact ⟨rfl, g7.thenN f8⟩
  · have hN : goN bits a by_ = 0 := by unfold goN; rw [if_neg (by rw [hE]; exact h0)]
    have hd : (E != 0) = true := by simpa using h0
    have HE := Lib.hid hE
    have HN := Lib.hid hN
    clear hE hN h0
    go_enter Try.func4, Try.ntmps4
    go_wp2_with fail
    refine (go_is bits a by_ E 0 _ HE.out HN.out).mono ?_
    rintro e w1 ⟨rfl, f1⟩
    go_wp2_with fail
    refine (alive_yes _).mono ?_
    rintro e w2 ⟨rfl, f2⟩
    go_wp2_with fail
    go_ret
    exact ⟨rfl, (f0.thenN f1).thenN f2⟩
end Go.Proofs.Ytalheackdaianaa.A
