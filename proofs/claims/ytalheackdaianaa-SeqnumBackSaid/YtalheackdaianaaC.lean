/- What In, Less, Between of a space do. -/
import Derived.Test.YtalheackdaianaaB
namespace Go.Proofs.Ytalheackdaianaa.A
open Go.RowKit Go.Proofs.Ytalheackdaianaa.K Go.Proofs.Ytalheackdaianaa.N
set_option linter.unusedVariables false
set_option linter.unusedSimpArgs false

theorem sz_le (b : Int) : 0 ≤ sz b ∧ sz b ≤ 65536 := by
  by_cases h : 1 ≤ b ∧ b ≤ 16
  · have := sz_range h; omega
  · rw [sz_zero h]; omega
theorem farN_le (b x y : Int) : 0 ≤ farN b x y ∧ farN b x y ≤ 65536 := by
  unfold farN
  split
  · rename_i h
    obtain ⟨hb, _⟩ := askS_zero h
    have := sz_range hb
    have h1 := Int.emod_nonneg (y - x) (show sz b ≠ 0 by omega)
    have h2 := Int.emod_lt_of_pos (y - x) (show 0 < sz b by omega)
    omega
  · omega

theorem far_is (b x y E N : Int) (w : World) (hE : farE b x y = E) (hN : farN b x y = N) : Calls Try.prog 10 #[.agg #[.int .i64 b], .int .i64 x, .int .i64 y] w fun e w' => e = .returned (.tuple #[.int .i64 N, .int .i64 E]) ∧ Frm No w w' := hE ▸ hN ▸ far_any b x y w

/-- In's answer. -/
def inE (b base size n : Int) : Int := if farE b base n = 0 then (if size < 1 ∨ sz b / 2 < size then 1 else 0) else farE b base n
def inB (b base size n : Int) : Bool := decide (inE b base size n = 0) && decide (farN b base n < size)

set_option maxHeartbeats 2000000 in
theorem in_any (b base size n : Int) (w : World) : Calls Try.prog 12 #[.agg #[.int .i64 b], .int .i64 base, .int .i64 size, .int .i64 n] w fun e w' => e = .returned (.tuple #[.bool (inB b base size n), .int .i64 (inE b base size n)]) ∧ Frm No w w' := by
  have hsz := sz_le b
  by_cases h0 : farE b base n = 0
  · by_cases h1 : size < 1
    · have e1 : inE b base size n = 1 := by unfold inE; rw [if_pos h0, if_pos (.inl h1)]
      have e2 : inB b base size n = false := by unfold inB; rw [e1]; rfl
      rw [e1, e2]
      have H0 := Lib.hid h0
      clear h0 e1 e2
      go_enter Try.func12, Try.ntmps12
      go_wp2_with fail
      refine (far_is b base n 0 _ _ H0.out rfl).mono ?_
      rintro e w1 ⟨rfl, f1⟩
      go_wp2_with fail
      go_ret2
      exact ⟨rfl, ((Frm.refl _ _).alloc _).thenN f1⟩
    · by_cases h2 : sz b / 2 < size
      · have e1 : inE b base size n = 1 := by unfold inE; rw [if_pos h0, if_pos (.inr h2)]
        have e2 : inB b base size n = false := by unfold inB; rw [e1]; rfl
        rw [e1, e2]
        have H0 := Lib.hid h0
        clear h0 e1 e2
        go_enter Try.func12, Try.ntmps12
        go_wp2_with fail
        refine (far_is b base n 0 _ _ H0.out rfl).mono ?_
        rintro e w1 ⟨rfl, f1⟩
        have hc0 : w1.cell? ⟨w.heap.size, 0, none⟩ = some (.int .i64 b) := (f1.blk (Blk.new w #[.int .i64 b] 23) (fun h => h)).cell 0
        go_wp2_with fail
        refine (size_any b _).mono ?_
        rintro e w2 ⟨rfl, f2⟩
        go_wp2_with fail
        go_ret2
        exact ⟨rfl, (((Frm.refl _ _).alloc _).thenN f1).thenN f2⟩
      · have e1 : inE b base size n = 0 := by unfold inE; rw [if_pos h0, if_neg (by omega)]
        have e2 : inB b base size n = decide (farN b base n < size) := by unfold inB; rw [e1]; simp
        rw [e1, e2]
        have H0 := Lib.hid h0
        clear h0 e1 e2
        go_enter Try.func12, Try.ntmps12
        go_wp2_with fail
        refine (far_is b base n 0 _ _ H0.out rfl).mono ?_
        rintro e w1 ⟨rfl, f1⟩
        have hc0 : w1.cell? ⟨w.heap.size, 0, none⟩ = some (.int .i64 b) := (f1.blk (Blk.new w #[.int .i64 b] 23) (fun h => h)).cell 0
        go_wp2_with fail
        refine (size_any b _).mono ?_
        rintro e w2 ⟨rfl, f2⟩
        go_wp2_with fail
        go_ret2
        exact ⟨rfl, (((Frm.refl _ _).alloc _).thenN f1).thenN f2⟩
  · have e1 : inE b base size n = farE b base n := by unfold inE; rw [if_neg h0]
    have e2 : inB b base size n = false := by unfold inB; rw [e1, decide_eq_false h0]; rfl
    rw [e1, e2]
    obtain ⟨E, hE⟩ : ∃ E, farE b base n = E := ⟨_, rfl⟩
    rw [hE] at h0
    rw [hE]
    have hd : (E != 0) = true := by simpa using h0
    have HE := Lib.hid hE
    clear hE h0 e1 e2
    go_enter Try.func12, Try.ntmps12
    go_wp2_with fail
    refine (far_is b base n E _ _ HE.out rfl).mono ?_
    rintro e w1 ⟨rfl, f1⟩
    go_wp2_with fail
    go_ret2
    exact ⟨rfl, ((Frm.refl _ _).alloc _).thenN f1⟩

/-- Less' answer. -/
def lessE (b base x y : Int) : Int := if farE b base x = 0 then farE b base y else farE b base x
def lessB (b base x y : Int) : Bool := decide (lessE b base x y = 0) && decide (farN b base x < farN b base y)

set_option maxHeartbeats 2000000 in
theorem less_any (b base x y : Int) (w : World) : Calls Try.prog 22 #[.agg #[.int .i64 b], .int .i64 base, .int .i64 x, .int .i64 y] w fun e w' => e = .returned (.tuple #[.bool (lessB b base x y), .int .i64 (lessE b base x y)]) ∧ Frm No w w' := by
  by_cases h0 : farE b base x = 0
  · have e1 : lessE b base x y = farE b base y := by unfold lessE; rw [if_pos h0]
    by_cases h1 : farE b base y = 0
    · have e2 : lessB b base x y = decide (farN b base x < farN b base y) := by unfold lessB; rw [e1, h1]; simp
      rw [e1, e2, h1]
      have H0 := Lib.hid h0
      have H1 := Lib.hid h1
      clear h0 h1 e1 e2
      go_enter Try.func22, Try.ntmps22
      go_wp2_with fail
      refine (far_is b base x 0 _ _ H0.out rfl).mono ?_
      rintro e w1 ⟨rfl, f1⟩
      have hc0 : w1.cell? ⟨w.heap.size, 0, none⟩ = some (.int .i64 b) := (f1.blk (Blk.new w #[.int .i64 b] 23) (fun h => h)).cell 0
      go_wp2_with fail
      refine (far_is b base y 0 _ _ H1.out rfl).mono ?_
      rintro e w2 ⟨rfl, f2⟩
      go_wp2_with fail
      go_ret2
      exact ⟨rfl, (((Frm.refl _ _).alloc _).thenN f1).thenN f2⟩
    · have e2 : lessB b base x y = false := by unfold lessB; rw [e1, decide_eq_false h1]; rfl
      rw [e1, e2]
      obtain ⟨E, hE⟩ : ∃ E, farE b base y = E := ⟨_, rfl⟩
      rw [hE] at h1
      rw [hE]
      have hd : (E == 0) = false := by simpa using h1
      have HE := Lib.hid hE
      have H0 := Lib.hid h0
      clear h0 h1 e1 e2 hE
      go_enter Try.func22, Try.ntmps22
      go_wp2_with fail
      refine (far_is b base x 0 _ _ H0.out rfl).mono ?_
      rintro e w1 ⟨rfl, f1⟩
      have hc0 : w1.cell? ⟨w.heap.size, 0, none⟩ = some (.int .i64 b) := (f1.blk (Blk.new w #[.int .i64 b] 23) (fun h => h)).cell 0
      go_wp2_with fail
      refine (far_is b base y E _ _ HE.out rfl).mono ?_
      rintro e w2 ⟨rfl, f2⟩
      go_wp2_with fail
      go_ret2
      exact ⟨rfl, (((Frm.refl _ _).alloc _).thenN f1).thenN f2⟩
  · have e1 : lessE b base x y = farE b base x := by unfold lessE; rw [if_neg h0]
    have e2 : lessB b base x y = false := by unfold lessB; rw [e1, decide_eq_false h0]; rfl
    rw [e1, e2]
    obtain ⟨E, hE⟩ : ∃ E, farE b base x = E := ⟨_, rfl⟩
    rw [hE] at h0
    rw [hE]
    have hd : (E != 0) = true := by simpa using h0
    have HE := Lib.hid hE
    clear hE h0 e1 e2
    go_enter Try.func22, Try.ntmps22
    go_wp2_with fail
    refine (far_is b base x E _ _ HE.out rfl).mono ?_
    rintro e w1 ⟨rfl, f1⟩
    go_wp2_with fail
    go_ret2
    exact ⟨rfl, ((Frm.refl _ _).alloc _).thenN f1⟩
end Go.Proofs.Ytalheackdaianaa.A
