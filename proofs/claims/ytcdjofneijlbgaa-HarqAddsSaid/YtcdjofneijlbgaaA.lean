/- What math.Trunc does to small whole numbers; side, Near, point. -/
import Derived.Test.YtcdjofneijlbgaaProg
import Derived.Test.YtcdjofneijlbgaaChecked
import Derived.Test.YtcdjofneijlbgaaF
import Derived.Test.YtcdjofneijlbgaaK
import Derived.WalkLawsBesides
import Derived.Laws.Externs
import Derived.Deep.QuietTactic
namespace Go.Proofs.Ytcdjofneijlbgaa.A
open Go.RowKit Go.Proofs.Ytcdjofneijlbgaa.K Go.Proofs.Ytcdjofneijlbgaa.F
set_option linter.unusedVariables false
set_option linter.unusedSimpArgs false

theorem arch_run (n : Int) (h : n.natAbs < 2 ^ 53) (w : World) : (callFunc 45 #[.float .f64 (FI n)]).run Try.prog w = .ok (.value (.float .f64 (FI n))) w := by
  rw [run_callFunc_extern Try.func45 (by kernel_rfl) (by kernel_rfl) (by kernel_rfl) (e := Extern.MathFloor.toIntegral "math.archTrunc" .zero) (by kernel_rfl)]
  obtain ⟨k, hk, m, h1, h2⟩ := reads_FI n h
  have hd : FloatKind.f64.decode (FI n) = Ieee.Datum.number (decide (n < 0)) m (-(k : Int)) := h1
  have hi := integral_FI n k m h2
  have he : FloatKind.f64.encode (Ieee.Datum.number (decide (n < 0)) n.natAbs 0) = FI n := rfl
  obtain ⟨alt, h0⟩ : ∃ alt, Extern.MathFloor.toIntegral "math.archTrunc" .zero #[.float .f64 (FI n)] = Extern.MathFloor.toIntegral.match_1 (fun _ => Sem Value) (FloatKind.f64.decode (FI n)) alt (fun d => pure (.float .f64 (FloatKind.f64.encode (d.integral .zero)))) := ⟨_, rfl⟩
  rw [h0, hd]
  show ((pure (Value.float .f64 (FloatKind.f64.encode ((Ieee.Datum.number (decide (n < 0)) m (-(k : Int))).integral .zero))) : Sem Value).run Try.prog w).andThen _ = _
  rw [hi, he]
  rfl
theorem Trunc_is (n : Int) (w : World) (h : n.natAbs < 2 ^ 53) : Calls Try.prog 43 #[.float .f64 (FI n)] w fun e w' => e = .returned (.float .f64 (FI n)) ∧ w' = w := by
  have h25 := arch_run n h
  go_enter Try.func43, Try.ntmps43
  go_wp2_with fail
  go_ret
  exact ⟨rfl, rfl⟩

theorem FI_lim : FI 1000 = 4652007308841189376 ∧ FI (-1000) = 13875379345695965184 := by decide
/-- Is a small whole number one that may be? -/
theorem whole_is (n : Int) (w : World) (h : n.natAbs < 2 ^ 53) : Calls Try.prog 39 #[.float .f64 (FI n)] w fun e w' => e = .returned (.bool (decide (-1000 ≤ n ∧ n ≤ 1000))) ∧ w' = w := by
  obtain ⟨l1, l2⟩ := FI_lim
  have c1 := cmp_gt n (-1000) h (by decide)
  have c2 := cmp_eq n (-1000) h (by decide)
  have c3 := cmp_lt n 1000 h (by decide)
  have c4 := cmp_eq n 1000 h (by decide)
  have c5 := cmp_eq n n h h
  rw [l2] at c1 c2
  rw [l1] at c3 c4
  by_cases h1 : -1000 ≤ n
  · have d1 : (decide ((-1000 : Int) < n) || decide (n = -1000)) = true := by simp; omega
    rw [← c1, ← c2] at d1
    by_cases h2 : n ≤ 1000
    · have d2 : (decide (n < 1000) || decide (n = 1000)) = true := by simp; omega
      rw [← c3, ← c4] at d2
      have d5 : decide (n = n) = true := by simp
      rw [← c5] at d5
      have e : decide (-1000 ≤ n ∧ n ≤ 1000) = true := decide_eq_true ⟨h1, h2⟩
      rw [e]
      clear c1 c2 c3 c4 c5 e
      have ht := fun w => Trunc_is n w h
      generalize FI n = x at *
      clear h1 h2 h
      go_enter Try.func39, Try.ntmps39
      go_wp2_with (go_at_call 43; refine (ht _).mono ?_; rintro e w1 ⟨rfl, rfl⟩)
      go_ret
      exact ⟨rfl, rfl⟩
    · have d2 : (decide (n < 1000) || decide (n = 1000)) = false := by simp; omega
      rw [← c3, ← c4] at d2
      have e : decide (-1000 ≤ n ∧ n ≤ 1000) = false := decide_eq_false (by omega)
      rw [e]
      clear c1 c2 c3 c4 c5 e
      generalize FI n = x at *
      clear h1 h2 h
      go_enter Try.func39, Try.ntmps39
      go_wp2_with fail
      go_ret
      exact ⟨rfl, rfl⟩
  · have d1 : (decide ((-1000 : Int) < n) || decide (n = -1000)) = false := by simp; omega
    rw [← c1, ← c2] at d1
    have e : decide (-1000 ≤ n ∧ n ≤ 1000) = false := decide_eq_false (by omega)
    rw [e]
    clear c1 c2 c3 c4 c5 e
    generalize FI n = x at *
    clear h1 h
    go_enter Try.func39, Try.ntmps39
    go_wp2_with fail
    go_ret
    exact ⟨rfl, rfl⟩

/-- 1 or -1. -/
def sg (n : Int) : Int := if n < 0 then -1 else 1
theorem sg_small (n : Int) : (sg n).natAbs = 1 := by unfold sg; split <;> rfl
theorem side_is (n : Int) (w : World) (h : n.natAbs < 2 ^ 53) : Calls Try.prog 40 #[.float .f64 (FI n)] w fun e w' => e = .returned (.float .f64 (FI (sg n))) ∧ w' = w := by
  have c1 := cmp_lt n 0 h (by decide)
  rw [FI_zero] at c1
  by_cases hn : n < 0
  · rw [decide_eq_true hn] at c1
    rw [show sg n = -1 from if_pos hn, FI_neg]
    generalize FI n = x at *
    go_enter Try.func40, Try.ntmps40
    go_wp2_with fail
    go_ret
    exact ⟨rfl, rfl⟩
  · rw [decide_eq_false hn] at c1
    rw [show sg n = 1 from if_neg hn, FI_one]
    generalize FI n = x at *
    go_enter Try.func40, Try.ntmps40
    go_wp2_with fail
    go_ret
    exact ⟨rfl, rfl⟩
/-- The nearest one of the four. -/
theorem near_is (x y : Int) (w : World) (hx : x.natAbs < 2 ^ 53) (hy : y.natAbs < 2 ^ 53) : Calls Try.prog 29 #[.complex .f64 (FI x) (FI y)] w fun e w' => e = .returned (.complex .f64 (FI (sg x)) (FI (sg y))) ∧ w' = w := by
  go_enter Try.func29, Try.ntmps29
  go_wp2_with fail
  refine (side_is x _ hx).mono ?_
  rintro e w1 ⟨rfl, rfl⟩
  go_wp2_with fail
  refine (side_is y _ hy).mono ?_
  rintro e w1 ⟨rfl, rfl⟩
  go_wp2_with fail
  go_ret
  exact ⟨rfl, rfl⟩
end Go.Proofs.Ytcdjofneijlbgaa.A
