/- The document's points: as, Near, Turn; points made of small numbers. -/
import Derived.Test.YtcdjofneijlbgaaPB
namespace Go.Proofs.Ytcdjofneijlbgaa.A
open Go.RowKit Go.Proofs.Ytcdjofneijlbgaa.K Go.Proofs.Ytcdjofneijlbgaa.F Go.Proofs.Ytcdjofneijlbgaa.N
set_option linter.unusedVariables false
set_option linter.unusedSimpArgs false

/-- A point as the document's. -/
abbrev pv2 (a b : Nat) : Value := .agg #[.float .f64 a, .float .f64 b]
theorem store_fl (a : Addr) (k : FloatKind) (n : Nat) (m : Mode) (w : World) : (store a (.float k n) m).run Try.prog w = stored Try.prog w a (.float k n) m := run_store Try.prog w a _ m rfl
set_option maxHeartbeats 1000000 in
theorem rnear_is (x y : Int) (w : World) (hx : x.natAbs < 2 ^ 53) (hy : y.natAbs < 2 ^ 53) : Calls Try.prog 32 #[.agg #[.float .f64 (FI x), .float .f64 (FI y)]] w fun e w' => e = .returned (.agg #[.float .f64 (FI (sg x)), .float .f64 (FI (sg y))]) ∧ Frm No w w' := by
  have c3 := cmp_lt x 0 hx (by decide)
  have c4 := cmp_lt y 0 hy (by decide)
  rw [FI_zero] at c3 c4
  have hst := store_fl
  by_cases h1 : x < 0
  · by_cases h2 : y < 0
    · rw [decide_eq_true h1] at c3
      rw [decide_eq_true h2] at c4
      rw [show sg x = -1 from if_pos h1, show sg y = -1 from if_pos h2, FI_neg]
      have F0 := (((Frm.refl No w).alloc (.cells #[.float .f64 (FI x), .float .f64 (FI y)] 60)).alloc (.cells #[.float .f64 13830554455654793216, .float .f64 13830554455654793216] 60)).alloc (.cells #[.float .f64 13830554455654793216, .float .f64 13830554455654793216] 60)
      generalize FI x = fx at *
      generalize FI y = fy at *
      go_enter Try.func32, Try.ntmps32
      go_wp2_with fail
      refine bodyPost_ret (by simp [results, Try.results32, go_sem]; try rfl) rfl ?_
      exact ⟨rfl, F0⟩
    · rw [decide_eq_true h1] at c3
      rw [decide_eq_false h2] at c4
      rw [show sg x = -1 from if_pos h1, show sg y = 1 from if_neg h2, FI_neg, FI_one]
      have F0 := (((Frm.refl No w).alloc (.cells #[.float .f64 (FI x), .float .f64 (FI y)] 60)).alloc (.cells #[.float .f64 13830554455654793216, .float .f64 4607182418800017408] 60)).alloc (.cells #[.float .f64 13830554455654793216, .float .f64 4607182418800017408] 60)
      generalize FI x = fx at *
      generalize FI y = fy at *
      go_enter Try.func32, Try.ntmps32
      go_wp2_with fail
      refine bodyPost_ret (by simp [results, Try.results32, go_sem]; try rfl) rfl ?_
      exact ⟨rfl, F0⟩
  · by_cases h2 : y < 0
    · rw [decide_eq_false h1] at c3
      rw [decide_eq_true h2] at c4
      rw [show sg x = 1 from if_neg h1, show sg y = -1 from if_pos h2, FI_neg, FI_one]
      have F0 := (((Frm.refl No w).alloc (.cells #[.float .f64 (FI x), .float .f64 (FI y)] 60)).alloc (.cells #[.float .f64 4607182418800017408, .float .f64 13830554455654793216] 60)).alloc (.cells #[.float .f64 4607182418800017408, .float .f64 13830554455654793216] 60)
      generalize FI x = fx at *
      generalize FI y = fy at *
      go_enter Try.func32, Try.ntmps32
      go_wp2_with fail
      refine bodyPost_ret (by simp [results, Try.results32, go_sem]; try rfl) rfl ?_
      exact ⟨rfl, F0⟩
    · rw [decide_eq_false h1] at c3
      rw [decide_eq_false h2] at c4
      rw [show sg x = 1 from if_neg h1, show sg y = 1 from if_neg h2, FI_one]
      have F0 := (((Frm.refl No w).alloc (.cells #[.float .f64 (FI x), .float .f64 (FI y)] 60)).alloc (.cells #[.float .f64 4607182418800017408, .float .f64 4607182418800017408] 60)).alloc (.cells #[.float .f64 4607182418800017408, .float .f64 4607182418800017408] 60)
      generalize FI x = fx at *
      generalize FI y = fy at *
      go_enter Try.func32, Try.ntmps32
      go_wp2_with fail
      refine bodyPost_ret (by simp [results, Try.results32, go_sem]; try rfl) rfl ?_
      exact ⟨rfl, F0⟩
end Go.Proofs.Ytcdjofneijlbgaa.A
