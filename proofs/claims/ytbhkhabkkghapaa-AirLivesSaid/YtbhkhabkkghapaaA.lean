/- What math.Trunc does to small whole numbers; side, Near, point. -/
import Derived.Test.YtbhkhabkkghapaaProg
import Derived.Test.YtbhkhabkkghapaaChecked
import Derived.Test.YtbhkhabkkghapaaF
import Derived.Test.YtbhkhabkkghapaaK
import Derived.WalkLawsBesides
import Derived.Laws.Externs
import Derived.Deep.QuietTactic
namespace Go.Proofs.Ytbhkhabkkghapaa.A
open Go.RowKit Go.Proofs.Ytbhkhabkkghapaa.K Go.Proofs.Ytbhkhabkkghapaa.F
set_option linter.unusedVariables false
set_option linter.unusedSimpArgs false

def sg (n : Int) : Int := if n < 0 then -1 else 1
theorem sg_small (n : Int) : (sg n).natAbs = 1 := by unfold sg; split <;> rfl
theorem side_is (n : Int) (w : World) (h : n.natAbs < 2 ^ 53) : Calls Try.prog 37 #[.float .f64 (FI n)] w fun e w' => e = .returned (.float .f64 (FI (sg n))) ∧ w' = w := by
  have c1 := cmp_lt n 0 h (by decide)
  rw [FI_zero] at c1
  by_cases hn : n < 0
  · rw [decide_eq_true hn] at c1
    rw [show sg n = -1 from if_pos hn, FI_neg]
    generalize FI n = x at *
    go_enter Try.func37, Try.ntmps37
    go_wp2_with fail
    go_ret
    exact ⟨rfl, rfl⟩
  · rw [decide_eq_false hn] at c1
    rw [show sg n = 1 from if_neg hn, FI_one]
    generalize FI n = x at *
    go_enter Try.func37, Try.ntmps37
    go_wp2_with fail
    go_ret
    exact ⟨rfl, rfl⟩
/-- The nearest one of the four. -/
theorem near_is (x y : Int) (w : World) (hx : x.natAbs < 2 ^ 53) (hy : y.natAbs < 2 ^ 53) : Calls Try.prog 29 #[.complex .f64 (FI x) (FI y)] w fun e w' => e = .returned (.complex .f64 (FI (sg x)) (FI (sg y))) ∧ w' = w := by
  go_enter Try.func29, Try.ntmps29
  go_wp2_with fail
  refine (side_is x _ hx).mono ?_
  rintro e w1 ⟨rfl, rfl⟩
  go_wp2_with fail
  refine (side_is y _ hy).mono ?_
  rintro e w1 ⟨rfl, rfl⟩
  go_wp2_with fail
  go_ret
  exact ⟨rfl, rfl⟩
end Go.Proofs.Ytbhkhabkkghapaa.A
