/- What each method of a poller does: made, Sent, Want, Ask, Since, Reset, and New. -/
import Derived.Test.YtnilihfhajjmhaaProg
import Derived.Test.YtnilihfhajjmhaaK
namespace Go.Proofs.Ytnilihfhajjmhaa.A
open Go.RowKit Go.Proofs.Ytnilihfhajjmhaa.K
set_option linter.unusedVariables false
set_option linter.unusedSimpArgs false

/-- A poller: two limits, what was sent since, whether it was told. -/
def IsP (w : World) (g : Nat) (P B n m : Int) (t : Bool) : Prop :=
  Blk w g #[.int .i64 P, .int .i64 B, .int .i64 n, .int .i64 m, .bool t] 47

theorem IsP.cells {w : World} {g : Nat} {P B n m : Int} {t : Bool} (h : IsP w g P B n m t) :
    w.cell? ⟨g, 0, none⟩ = some (.int .i64 P) ∧ w.cell? ⟨g, 1, none⟩ = some (.int .i64 B) ∧ w.cell? ⟨g, 2, none⟩ = some (.int .i64 n) ∧
    w.cell? ⟨g, 3, none⟩ = some (.int .i64 m) ∧ w.cell? ⟨g, 4, none⟩ = some (.bool t) :=
  ⟨Blk.cell h 0, Blk.cell h 1, Blk.cell h 2, Blk.cell h 3, Blk.cell h 4⟩

theorem ret_eq {a b : Value} (h : a = b) : Ending.returned a = .returned b := by rw [h]

set_option maxHeartbeats 400000 in
theorem new_bad (P B : Int) (w : World) (h : P < 1 ∨ 1000 < P ∨ B < 1 ∨ 20000 < B) :
    Calls Try.prog 6 #[.int .i64 P, .int .i64 B] w fun e w' => e = .returned (.tuple #[.pointer none, .int .i64 1]) ∧ w = w' := by
  by_cases h1 : P < 1
  · go_enter Try.func6, Try.ntmps6
    go_wp2
    go_ret2
    exact ⟨rfl, rfl⟩
  by_cases h2 : 1000 < P
  · go_enter Try.func6, Try.ntmps6
    go_wp2
    go_ret2
    exact ⟨rfl, rfl⟩
  by_cases h3 : B < 1
  · go_enter Try.func6, Try.ntmps6
    go_wp2
    go_ret2
    exact ⟨rfl, rfl⟩
  have h4 : 20000 < B := by omega
  go_enter Try.func6, Try.ntmps6
  go_wp2
  go_ret2
  exact ⟨rfl, rfl⟩

set_option maxHeartbeats 400000 in
theorem new_ok (P B : Int) (w : World) (h1 : 1 ≤ P) (h2 : P ≤ 1000) (h3 : 1 ≤ B) (h4 : B ≤ 20000) :
    Calls Try.prog 6 #[.int .i64 P, .int .i64 B] w fun e w' => e = .returned (.tuple #[.pointer (some ⟨w.heap.size, 0, none⟩), .int .i64 0]) ∧ IsP w' w.heap.size P B 0 0 false ∧ Frm No w w' := by
  go_enter Try.func6, Try.ntmps6
  go_wp2
  go_ret2
  exact ⟨rfl, Blk.new _ _ _, (Frm.refl _ _).alloc _⟩

set_option maxHeartbeats 400000 in
theorem made_yes (w : World) (g : Nat) (P B n m : Int) (t : Bool) (h : IsP w g P B n m t) (hP : 0 < P) :
    Calls Try.prog 15 #[.pointer (some ⟨g, 0, none⟩)] w fun e w' => e = .returned (.bool true) ∧ w = w' := by
  obtain ⟨h0, h1, h2, h3, h4⟩ := h.cells
  have hz : (P == 0) = false := by simp; omega
  go_enter Try.func15, Try.ntmps15
  go_wp2
  go_ret
  exact ⟨rfl, rfl⟩

set_option maxHeartbeats 400000 in
theorem made_nil (w : World) : Calls Try.prog 15 #[.pointer none] w fun e w' => e = .returned (.bool false) ∧ w = w' := by
  go_enter Try.func15, Try.ntmps15
  go_wp2
  go_ret
  exact ⟨rfl, rfl⟩

set_option maxHeartbeats 400000 in
theorem made_zero (w : World) (g : Nat) (h : IsP w g 0 0 0 0 false) : Calls Try.prog 15 #[.pointer (some ⟨g, 0, none⟩)] w fun e w' => e = .returned (.bool false) ∧ w = w' := by
  obtain ⟨h0, h1, h2, h3, h4⟩ := h.cells
  go_enter Try.func15, Try.ntmps15
  go_wp2
  go_ret
  exact ⟨rfl, rfl⟩

set_option maxHeartbeats 400000 in
theorem sent_ok (w : World) (g : Nat) (P B n m k : Int) (t : Bool) (h : IsP w g P B n m t) (hP : 0 < P) (hn : 0 ≤ n) (hn1 : n ≤ 1000000) (hm : 0 ≤ m) (hm1 : m ≤ 10000000000) (hk : 0 ≤ k) (hk1 : k ≤ 4000) :
    Calls Try.prog 8 #[.pointer (some ⟨g, 0, none⟩), .int .i64 k] w fun e w' => e = .returned (.int .i64 0) ∧ IsP w' g P B (n + 1) (m + k) t ∧ Frm (· = g) w w' := by
  obtain ⟨h0, h1, h2, h3, h4⟩ := h.cells
  have f2 := Blk.free h 2
  have f3 := Blk.free h 3
  go_enter Try.func8, Try.ntmps8
  go_wp2_with (go_at_call 15; refine (made_yes _ g P B n m t h hP).mono ?_; rintro e w' ⟨rfl, rfl⟩)
  go_ret
  exact ⟨rfl, (Blk.set (Blk.set h 2 _) 3 _), ((Frm.refl _ _).self _ _).self _ _⟩

set_option maxHeartbeats 400000 in
theorem sent_bad (w : World) (g : Nat) (P B n m k : Int) (t : Bool) (h : IsP w g P B n m t) (hP : 0 < P) (hk : k < 0 ∨ 4000 < k) :
    Calls Try.prog 8 #[.pointer (some ⟨g, 0, none⟩), .int .i64 k] w fun e w' => e = .returned (.int .i64 1) ∧ w = w' := by
  obtain ⟨h0, h1, h2, h3, h4⟩ := h.cells
  by_cases hk0 : k < 0
  · go_enter Try.func8, Try.ntmps8
    go_wp2_with (go_at_call 15; refine (made_yes _ g P B n m t h hP).mono ?_; rintro e w' ⟨rfl, rfl⟩)
    go_ret
    exact ⟨rfl, rfl⟩
  have hk1 : 4000 < k := by omega
  go_enter Try.func8, Try.ntmps8
  go_wp2_with (go_at_call 15; refine (made_yes _ g P B n m t h hP).mono ?_; rintro e w' ⟨rfl, rfl⟩)
  go_ret
  exact ⟨rfl, rfl⟩

set_option maxHeartbeats 400000 in
theorem sent_nil (w : World) (k : Int) : Calls Try.prog 8 #[.pointer none, .int .i64 k] w fun e w' => e = .returned (.int .i64 6) ∧ w = w' := by
  go_enter Try.func8, Try.ntmps8
  go_wp2_with (go_at_call 15; refine (made_nil _).mono ?_; rintro e w' ⟨rfl, rfl⟩)
  go_ret
  exact ⟨rfl, rfl⟩

set_option maxHeartbeats 400000 in
theorem sent_zero (w : World) (g : Nat) (k : Int) (h : IsP w g 0 0 0 0 false) : Calls Try.prog 8 #[.pointer (some ⟨g, 0, none⟩), .int .i64 k] w fun e w' => e = .returned (.int .i64 6) ∧ w = w' := by
  go_enter Try.func8, Try.ntmps8
  go_wp2_with (go_at_call 15; refine (made_zero _ g h).mono ?_; rintro e w' ⟨rfl, rfl⟩)
  go_ret
  exact ⟨rfl, rfl⟩

set_option maxHeartbeats 400000 in
theorem want_ok (w : World) (g : Nat) (P B n m : Int) (t : Bool) (h : IsP w g P B n m t) (hP : 0 < P) :
    Calls Try.prog 10 #[.pointer (some ⟨g, 0, none⟩)] w fun e w' => e = .returned (.int .i64 0) ∧ IsP w' g P B n m true ∧ Frm (· = g) w w' := by
  obtain ⟨h0, h1, h2, h3, h4⟩ := h.cells
  have f4 := Blk.free h 4
  go_enter Try.func10, Try.ntmps10
  go_wp2_with (go_at_call 15; refine (made_yes _ g P B n m t h hP).mono ?_; rintro e w' ⟨rfl, rfl⟩)
  go_ret
  exact ⟨rfl, Blk.set h 4 _, (Frm.refl _ _).self _ _⟩

set_option maxHeartbeats 400000 in
theorem want_nil (w : World) : Calls Try.prog 10 #[.pointer none] w fun e w' => e = .returned (.int .i64 6) ∧ w = w' := by
  go_enter Try.func10, Try.ntmps10
  go_wp2_with (go_at_call 15; refine (made_nil _).mono ?_; rintro e w' ⟨rfl, rfl⟩)
  go_ret
  exact ⟨rfl, rfl⟩

set_option maxHeartbeats 400000 in
theorem want_zero (w : World) (g : Nat) (h : IsP w g 0 0 0 0 false) : Calls Try.prog 10 #[.pointer (some ⟨g, 0, none⟩)] w fun e w' => e = .returned (.int .i64 6) ∧ w = w' := by
  go_enter Try.func10, Try.ntmps10
  go_wp2_with (go_at_call 15; refine (made_zero _ g h).mono ?_; rintro e w' ⟨rfl, rfl⟩)
  go_ret
  exact ⟨rfl, rfl⟩

set_option maxHeartbeats 400000 in
theorem since_ok (w : World) (g : Nat) (P B n m : Int) (t : Bool) (h : IsP w g P B n m t) (hP : 0 < P) :
    Calls Try.prog 11 #[.pointer (some ⟨g, 0, none⟩)] w fun e w' => e = .returned (.tuple #[.int .i64 n, .int .i64 m]) ∧ IsP w' g P B n m t ∧ Frm No w w' := by
  obtain ⟨h0, h1, h2, h3, h4⟩ := h.cells
  go_enter Try.func11, Try.ntmps11
  go_wp2_with (go_at_call 15; refine (made_yes _ g P B n m t h hP).mono ?_; rintro e w' ⟨rfl, rfl⟩)
  go_quiet (fail)
  go_wp2
  go_ret2
  exact ⟨rfl, h, (Frm.refl _ _).drewN _⟩

set_option maxHeartbeats 400000 in
theorem since_nil (w : World) : Calls Try.prog 11 #[.pointer none] w fun e w' => e = .returned (.tuple #[.int .i64 0, .int .i64 0]) ∧ w = w' := by
  go_enter Try.func11, Try.ntmps11
  go_wp2_with (go_at_call 15; refine (made_nil _).mono ?_; rintro e w' ⟨rfl, rfl⟩)
  go_ret2
  exact ⟨rfl, rfl⟩

set_option maxHeartbeats 400000 in
theorem reset_ok (w : World) (g : Nat) (P B n m : Int) (t : Bool) (h : IsP w g P B n m t) (hP : 0 < P) :
    Calls Try.prog 13 #[.pointer (some ⟨g, 0, none⟩)] w fun e w' => e = .returned (.tuple #[]) ∧ IsP w' g P B 0 0 false ∧ Frm (· = g) w w' := by
  obtain ⟨h0, h1, h2, h3, h4⟩ := h.cells
  have f2 := Blk.free h 2
  have f3 := Blk.free h 3
  have f4 := Blk.free h 4
  go_enter Try.func13, Try.ntmps13
  go_wp2_with (go_at_call 15; refine (made_yes _ g P B n m t h hP).mono ?_; rintro e w' ⟨rfl, rfl⟩)
  go_end0
  exact ⟨rfl, Blk.set (Blk.set (Blk.set h 2 _) 3 _) 4 _, (((Frm.refl _ _).self _ _).self _ _).self _ _⟩

set_option maxHeartbeats 400000 in
theorem reset_nil (w : World) : Calls Try.prog 13 #[.pointer none] w fun e w' => e = .returned (.tuple #[]) ∧ w = w' := by
  go_enter Try.func13, Try.ntmps13
  go_wp2_with (go_at_call 15; refine (made_nil _).mono ?_; rintro e w' ⟨rfl, rfl⟩)
  go_end0
  exact ⟨rfl, rfl⟩

end Go.Proofs.Ytnilihfhajjmhaa.A
