/- What Ask of a poller does. -/
import Derived.Test.YtnilihfhajjmhaaA
namespace Go.Proofs.Ytnilihfhajjmhaa.A
open Go.RowKit Go.Proofs.Ytnilihfhajjmhaa.K
set_option linter.unusedVariables false
set_option linter.unusedSimpArgs false

set_option maxHeartbeats 400000 in
theorem ask_nil (w : World) (em st : Bool) : Calls Try.prog 9 #[.pointer none, .bool em, .bool st] w fun e w' => e = .returned (.bool false) ∧ w = w' := by
  go_enter Try.func9, Try.ntmps9
  go_wp2_with (go_at_call 15; refine (made_nil _).mono ?_; rintro e w' ⟨rfl, rfl⟩)
  go_ret
  exact ⟨rfl, rfl⟩

set_option maxHeartbeats 400000 in
theorem ask_zero (w : World) (g : Nat) (em st : Bool) (h : IsP w g 0 0 0 0 false) : Calls Try.prog 9 #[.pointer (some ⟨g, 0, none⟩), .bool em, .bool st] w fun e w' => e = .returned (.bool false) ∧ w = w' := by
  go_enter Try.func9, Try.ntmps9
  go_wp2_with (go_at_call 15; refine (made_zero _ g h).mono ?_; rintro e w' ⟨rfl, rfl⟩)
  go_ret
  exact ⟨rfl, rfl⟩

/-- It is not asked. -/
theorem ask_no (w : World) (g : Nat) (P B n m : Int) (h : IsP w g P B n m false) (hP : 0 < P) (hn : n < P) (hm : m < B) :
    Calls Try.prog 9 #[.pointer (some ⟨g, 0, none⟩), .bool false, .bool false] w fun e w' => e = .returned (.bool false) ∧ IsP w' g P B n m false ∧ Frm No w w' := by
  obtain ⟨h0, h1, h2, h3, h4⟩ := h.cells
  have hl := Blk.lt h
  go_enter Try.func9, Try.ntmps9
  go_wp2_with (go_at_call 15; refine (made_yes _ g P B n m false h hP).mono ?_; rintro e w' ⟨rfl, rfl⟩)
  go_quiet (fail)
  go_wp2
  go_ret
  exact ⟨rfl, (Blk.alloc h _).drewN _, ((Frm.refl _ _).alloc _).drewN _⟩

set_option maxHeartbeats 4000000 in
/-- It is asked, and all is as at first. -/
theorem ask_yes (w : World) (g : Nat) (P B n m : Int) (t em st : Bool) (h : IsP w g P B n m t) (hP : 0 < P) (hy : em = true ∨ st = true ∨ t = true ∨ P ≤ n ∨ B ≤ m) :
    Calls Try.prog 9 #[.pointer (some ⟨g, 0, none⟩), .bool em, .bool st] w fun e w' => e = .returned (.bool true) ∧ IsP w' g P B 0 0 false ∧ Frm (· = g) w w' := by
  obtain ⟨h0, h1, h2, h3, h4⟩ := h.cells
  have hl := Blk.lt h
  have f2 := Blk.free h 2
  have f3 := Blk.free h 3
  have f4 := Blk.free h 4
  by_cases hn : n < P
  · by_cases hm : m < B
    · cases em <;> cases st <;> cases t <;> first | (exfalso; simp at hy; omega) | skip
      all_goals clear hy
      all_goals go_enter Try.func9, Try.ntmps9
      all_goals go_wp2_with (go_at_call 15; refine (made_yes _ g P B n m _ h hP).mono ?_; rintro e w' ⟨rfl, rfl⟩)
      all_goals go_quiet (fail)
      all_goals go_wp2
      all_goals go_ret
      all_goals exact ⟨rfl, ((((Blk.alloc h _).set 2 _).set 3 _).set 4 _).drewN _, (((((Frm.refl _ _).alloc _).self _ _).self _ _).self _ _).drewN _⟩
    · have hd : decide (m < B) = false := by simpa using hm
      cases em <;> cases st <;> cases t
      all_goals clear hy
      all_goals go_enter Try.func9, Try.ntmps9
      all_goals go_wp2_with (go_at_call 15; refine (made_yes _ g P B n m _ h hP).mono ?_; rintro e w' ⟨rfl, rfl⟩)
      all_goals go_quiet (fail)
      all_goals go_wp2
      all_goals go_ret
      all_goals exact ⟨rfl, ((((Blk.alloc h _).set 2 _).set 3 _).set 4 _).drewN _, (((((Frm.refl _ _).alloc _).self _ _).self _ _).self _ _).drewN _⟩
  · have hd : decide (n < P) = false := by simpa using hn
    cases em <;> cases st <;> cases t
    all_goals clear hy
    all_goals go_enter Try.func9, Try.ntmps9
    all_goals go_wp2_with (go_at_call 15; refine (made_yes _ g P B n m _ h hP).mono ?_; rintro e w' ⟨rfl, rfl⟩)
    all_goals go_quiet (fail)
    all_goals go_wp2
    all_goals go_ret
    all_goals exact ⟨rfl, ((((Blk.alloc h _).set 2 _).set 3 _).set 4 _).drewN _, (((((Frm.refl _ _).alloc _).self _ _).self _ _).self _ _).drewN _⟩
end Go.Proofs.Ytnilihfhajjmhaa.A
