/- PollSoon's walk: asked behind each packet, a poller asks just where the limits are met. -/
import Derived.Test.YtnilihfhajjmhaaC
import Derived.Lib.Hide
namespace Go.Proofs.Ytnilihfhajjmhaa.A
open Go.RowKit Go.Proofs.Ytnilihfhajjmhaa.K
set_option linter.unusedVariables false
set_option linter.unusedSimpArgs false


set_option maxHeartbeats 1000000 in
theorem soon_bad (a0 a1 : Int) (A : Option Addr) (n c : Nat) (w : World) (h : a0 < 1 ∨ 1000 < a0 ∨ a1 < 1 ∨ 20000 < a1) :
    Calls Try.prog 3 #[.int .i64 a0, .int .i64 a1, .slice A n c] w fun e w' => e = .returned (.bool true) ∧ Frm No w w' := by
  have key : ∀ (h1 : Bool) (h2 : Bool) (h3 : Bool) (h4 : Bool), h1 = decide (a0 < 1) → h2 = decide (1000 < a0) → h3 = decide (a1 < 1) → h4 = decide (20000 < a1) →
    Calls Try.prog 3 #[.int .i64 a0, .int .i64 a1, .slice A n c] w fun e w' => e = .returned (.bool true) ∧ Frm No w w' := by
    intro h1 h2 h3 h4 e1 e2 e3 e4
    have H := Lib.hid h
    clear h
    cases h1 <;> cases h2 <;> cases h3 <;> cases h4 <;> first | (exfalso; have := H.out; simp at e1 e2 e3 e4; omega) | skip
    all_goals simp only [eq_comm (a := true), eq_comm (a := false), decide_eq_true_eq, decide_eq_false_iff_not] at e1 e2 e3 e4
    all_goals go_enter Try.func3, Try.ntmps3
    all_goals go_wp2_with (first | (go_at_call 6; refine (new_bad a0 a1 _ H.out).mono ?_; rintro e w' ⟨rfl, rfl⟩) | (go_at_call 7; refine (alive_yes _).mono ?_; rintro e w' ⟨rfl, f1⟩))
    all_goals go_ret
    all_goals exact ⟨rfl, f1⟩
  exact key _ _ _ _ rfl rfl rfl rfl
end Go.Proofs.Ytnilihfhajjmhaa.A
