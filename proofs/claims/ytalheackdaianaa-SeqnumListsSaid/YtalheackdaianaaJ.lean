/- SeqnumOrder's walk. -/
import Derived.Test.YtalheackdaianaaI
namespace Go.Proofs.Ytalheackdaianaa.A
open Go.RowKit Go.Proofs.Ytalheackdaianaa.K Go.Proofs.Ytalheackdaianaa.N
set_option linter.unusedVariables false
set_option linter.unusedSimpArgs false

theorem farE_cases (b x y : Int) : farE b x y = 0 ∨ farE b x y ≠ 0 := by omega

/-- Far tells numbers apart. -/
theorem far_inj {b base x y : Int} (hx : farE b base x = 0) (hy : farE b base y = 0) (h : farN b base x = farN b base y) : x = y := by
  obtain ⟨hb, hzx⟩ := askS_zero hx
  obtain ⟨_, hzy⟩ := askS_zero hy
  have b0 := hzx base (by simp)
  have x0 := hzx x (by simp)
  have y0 := hzy y (by simp)
  unfold farN at h
  rw [hx, hy] at h
  simp only [if_pos] at h
  have s1 := em_sub b0 x0
  have s2 := em_sub b0 y0
  omega

set_option maxRecDepth 100000 in
set_option maxHeartbeats 4000000 in
theorem order_core (bits base a b c E1 E2 E3 E4 E5 : Int) (X Y Z W M : Bool) (w : World)
    (h1 : lessE bits base a b = E1) (x1 : lessB bits base a b = X) (h2 : lessE bits base b a = E2) (x2 : lessB bits base b a = Y)
    (h3 : lessE bits base b c = E3) (x3 : lessB bits base b c = Z) (h4 : lessE bits base a c = E4) (x4 : lessB bits base a c = W) (h5 : lessE bits base a a = E5) (x5 : lessB bits base a a = M)
    (hcase : ((E1 != 0) = true ∧ (E1 == 0) = false ∧ X = false) ∨ (E1 = 0 ∧ E2 = 0 ∧ (E3 != 0) = true) ∨ (E1 = 0 ∧ E2 = 0 ∧ E3 = 0 ∧ E4 = 0 ∧ E5 = 0 ∧ M = false ∧ (a != b) = (X != Y) ∧ (!X || !Z || W) = true)) :
    Calls Try.prog 7 #[.int .i64 bits, .int .i64 base, .int .i64 a, .int .i64 b, .int .i64 c] w fun e w' => e = .returned (.bool true) ∧ Frm No w w' := by
  have b0 := Blk.new w #[.int .i64 bits] 23
  have f0 := (Frm.refl No w).alloc (.cells #[.int .i64 bits] 23)
  have H1 := Lib.hid h1
  have H2 := Lib.hid h2
  have H3 := Lib.hid h3
  have H4 := Lib.hid h4
  have H5 := Lib.hid h5
  have Q1 := Lib.hid x1
  have Q2 := Lib.hid x2
  have Q3 := Lib.hid x3
  have Q4 := Lib.hid x4
  have Q5 := Lib.hid x5
  clear h1 h2 h3 h4 h5 x1 x2 x3 x4 x5
  rcases hcase with ⟨d1, d2, d3⟩ | ⟨rfl, rfl, d3⟩ | ⟨rfl, rfl, rfl, rfl, rfl, rfl, d1, d2⟩
  · subst d3
    go_enter Try.func7, Try.ntmps7
    go_wp2_with fail
    refine (less_is bits base a b E1 false _ H1.out Q1.out).mono ?_
    rintro e w1 ⟨rfl, f1⟩
    have b1 := f1.blk b0 (fun h => h)
    have g1 := f0.thenN f1
    have c1 : w1.cell? ⟨w.heap.size, 0, none⟩ = some (.int .i64 bits) := b1.cell 0
    clear f1 b0 f0
    go_wp2_with fail
    refine (less_is bits base b a E2 Y _ H2.out Q2.out).mono ?_
    rintro e w2 ⟨rfl, f2⟩
    have b2 := f2.blk b1 (fun h => h)
    have g2 := g1.thenN f2
    have c2 : w2.cell? ⟨w.heap.size, 0, none⟩ = some (.int .i64 bits) := b2.cell 0
    clear f2 b1 g1 c1
    go_wp2_with fail
    refine (less_is bits base b c E3 Z _ H3.out Q3.out).mono ?_
    rintro e w3 ⟨rfl, f3⟩
    have b3 := f3.blk b2 (fun h => h)
    have g3 := g2.thenN f3
    have c3 : w3.cell? ⟨w.heap.size, 0, none⟩ = some (.int .i64 bits) := b3.cell 0
    clear f3 b2 g2 c2
    go_wp2_with fail
    refine (less_is bits base a c E4 W _ H4.out Q4.out).mono ?_
    rintro e w4 ⟨rfl, f4⟩
    have b4 := f4.blk b3 (fun h => h)
    have g4 := g3.thenN f4
    have c4 : w4.cell? ⟨w.heap.size, 0, none⟩ = some (.int .i64 bits) := b4.cell 0
    clear f4 b3 g3 c3
    go_wp2_with fail
    refine (less_is bits base a a E5 M _ H5.out Q5.out).mono ?_
    rintro e w5 ⟨rfl, f5⟩
    have g5 := g4.thenN f5
    clear f5 b4 g4 c4
    go_wp2_with fail
    refine (alive_yes _).mono ?_
    rintro e w6 ⟨rfl, f6⟩
    go_wp2_with fail
    go_ret
    exact ⟨rfl, g5.thenN f6⟩
  · go_enter Try.func7, Try.ntmps7
    go_wp2_with fail
    refine (less_is bits base a b 0 X _ H1.out Q1.out).mono ?_
    rintro e w1 ⟨rfl, f1⟩
    have b1 := f1.blk b0 (fun h => h)
    have g1 := f0.thenN f1
    have c1 : w1.cell? ⟨w.heap.size, 0, none⟩ = some (.int .i64 bits) := b1.cell 0
    clear f1 b0 f0
    go_wp2_with fail
    refine (less_is bits base b a 0 Y _ H2.out Q2.out).mono ?_
    rintro e w2 ⟨rfl, f2⟩
    have b2 := f2.blk b1 (fun h => h)
    have g2 := g1.thenN f2
    have c2 : w2.cell? ⟨w.heap.size, 0, none⟩ = some (.int .i64 bits) := b2.cell 0
    clear f2 b1 g1 c1
    go_wp2_with fail
    refine (less_is bits base b c E3 Z _ H3.out Q3.out).mono ?_
    rintro e w3 ⟨rfl, f3⟩
    have b3 := f3.blk b2 (fun h => h)
    have g3 := g2.thenN f3
    have c3 : w3.cell? ⟨w.heap.size, 0, none⟩ = some (.int .i64 bits) := b3.cell 0
    clear f3 b2 g2 c2
    go_wp2_with fail
    refine (less_is bits base a c E4 W _ H4.out Q4.out).mono ?_
    rintro e w4 ⟨rfl, f4⟩
    have b4 := f4.blk b3 (fun h => h)
    have g4 := g3.thenN f4
    have c4 : w4.cell? ⟨w.heap.size, 0, none⟩ = some (.int .i64 bits) := b4.cell 0
    clear f4 b3 g3 c3
    go_wp2_with fail
    refine (less_is bits base a a E5 M _ H5.out Q5.out).mono ?_
    rintro e w5 ⟨rfl, f5⟩
    have g5 := g4.thenN f5
    clear f5 b4 g4 c4
    go_wp2_with fail
    refine (alive_yes _).mono ?_
    rintro e w6 ⟨rfl, f6⟩
    go_wp2_with fail
    go_ret
    exact ⟨rfl, g5.thenN f6⟩
  · cases X <;> cases Y <;> cases Z <;> cases W <;> first | (exfalso; revert d2; decide) | skip
    all_goals
      first
        | (have hD : (a != b) = true := d1; clear d1)
        | (have hD : (a != b) = false := d1; clear d1)
      clear d2
      go_enter Try.func7, Try.ntmps7
      go_wp2_with fail
      refine (less_is bits base a b 0 _ _ H1.out Q1.out).mono ?_
      rintro e w1 ⟨rfl, f1⟩
      have b1 := f1.blk b0 (fun h => h)
      have g1 := f0.thenN f1
      have c1 : w1.cell? ⟨w.heap.size, 0, none⟩ = some (.int .i64 bits) := b1.cell 0
      clear f1 b0 f0
      go_wp2_with fail
      refine (less_is bits base b a 0 _ _ H2.out Q2.out).mono ?_
      rintro e w2 ⟨rfl, f2⟩
      have b2 := f2.blk b1 (fun h => h)
      have g2 := g1.thenN f2
      have c2 : w2.cell? ⟨w.heap.size, 0, none⟩ = some (.int .i64 bits) := b2.cell 0
      clear f2 b1 g1 c1
      go_wp2_with fail
      refine (less_is bits base b c 0 _ _ H3.out Q3.out).mono ?_
      rintro e w3 ⟨rfl, f3⟩
      have b3 := f3.blk b2 (fun h => h)
      have g3 := g2.thenN f3
      have c3 : w3.cell? ⟨w.heap.size, 0, none⟩ = some (.int .i64 bits) := b3.cell 0
      clear f3 b2 g2 c2
      go_wp2_with fail
      refine (less_is bits base a c 0 _ _ H4.out Q4.out).mono ?_
      rintro e w4 ⟨rfl, f4⟩
      have b4 := f4.blk b3 (fun h => h)
      have g4 := g3.thenN f4
      have c4 : w4.cell? ⟨w.heap.size, 0, none⟩ = some (.int .i64 bits) := b4.cell 0
      clear f4 b3 g3 c3
      go_wp2_with fail
      refine (less_is bits base a a 0 _ _ H5.out Q5.out).mono ?_
      rintro e w5 ⟨rfl, f5⟩
      have g5 := g4.thenN f5
      clear f5 b4 g4 c4
      go_wp2_with fail
      refine (alive_yes _).mono ?_
      rintro e w6 ⟨rfl, f6⟩
      go_wp2_with fail
      go_ret
      exact ⟨rfl, g5.thenN f6⟩

theorem order_walk (bits base a b c : Int) (w : World) (_ : (Lit.int .i64 bits).wf = true) (_ : (Lit.int .i64 base).wf = true) (_ : (Lit.int .i64 a).wf = true) (_ : (Lit.int .i64 b).wf = true) (_ : (Lit.int .i64 c).wf = true) :
    Calls Try.prog 7 #[.int .i64 bits, .int .i64 base, .int .i64 a, .int .i64 b, .int .i64 c] w fun e w' => e = .returned (.bool true) ∧ Frm No w w' := by
  refine order_core bits base a b c _ _ _ _ _ _ _ _ _ _ w rfl rfl rfl rfl rfl rfl rfl rfl rfl rfl ?_
  by_cases h1 : lessE bits base a b = 0
  · right
    have ha : farE bits base a = 0 := by
      unfold lessE at h1
      split at h1
      · assumption
      · rename_i h; exact absurd h1 h
    have hb : farE bits base b = 0 := by unfold lessE at h1; rw [if_pos ha] at h1; exact h1
    have h2 : lessE bits base b a = 0 := by unfold lessE; rw [if_pos hb]; exact ha
    have h5 : lessE bits base a a = 0 := by unfold lessE; rw [if_pos ha]; exact ha
    by_cases h3 : lessE bits base b c = 0
    · right
      have hc : farE bits base c = 0 := by unfold lessE at h3; rw [if_pos hb] at h3; exact h3
      have h4 : lessE bits base a c = 0 := by unfold lessE; rw [if_pos ha]; exact hc
      refine ⟨h1, h2, h3, h4, h5, ?_, ?_, ?_⟩
      · unfold lessB; simp
      · unfold lessB
        rw [h1, h2]
        by_cases hab : a = b
        · subst hab; simp
        · have hne : farN bits base a ≠ farN bits base b := fun h => hab (far_inj ha hb h)
          rcases Int.lt_or_gt_of_ne hne with h | h
          · have : ¬ farN bits base b < farN bits base a := by omega
            simp [h, this, hab]
          · have : ¬ farN bits base a < farN bits base b := by omega
            simp [h, this, hab]
      · unfold lessB
        rw [h1, h3, h4]
        simp
        omega
    · left
      exact ⟨h1, h2, by simpa using h3⟩
  · left
    refine ⟨by simpa using h1, by simpa using h1, ?_⟩
    unfold lessB
    rw [decide_eq_false h1]; rfl
end Go.Proofs.Ytalheackdaianaa.A
