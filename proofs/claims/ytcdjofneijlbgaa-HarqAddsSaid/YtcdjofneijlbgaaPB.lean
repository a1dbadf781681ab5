/- PointsBack's walk. -/
import Derived.Test.YtcdjofneijlbgaaG
import Derived.Test.YtcdjofneijlbgaaO
namespace Go.Proofs.Ytcdjofneijlbgaa.A
open Go.RowKit Go.ChangeShapes Go.WideShapes Go.Proofs.Ytcdjofneijlbgaa.K Go.Proofs.Ytcdjofneijlbgaa.F Go.Proofs.Ytcdjofneijlbgaa.N
set_option linter.unusedVariables false
set_option linter.unusedSimpArgs false

theorem sml_of {L : List Pt} (h : ∀ p ∈ L, Four p) : Sml L := fun p hp => (h p hp).sml
theorem bytes_lt {zs : List Int} (h : ∀ z ∈ zs, (Lit.int .u8 z).wf = true) : ∀ c ∈ zs.map Int.toNat, c < 256 := fun c hc => by
  obtain ⟨z, hz, rfl⟩ := List.mem_map.1 hc
  have := u8_of (h z hz)
  omega
theorem i8_of {a : Int} (h : (Lit.int .i8 a).wf = true) : -128 ≤ a ∧ a ≤ 127 := by
  simp only [Lit.wf, Bool.and_eq_true, decide_eq_true_eq] at h
  exact h
/-- Equal points, as floats. -/
theorem eq_pt (p : Pt) (h : Four p) : (FloatKind.f64.format.order (FI p.1) (FI p.1) == some .eq) = true ∧ (FloatKind.f64.format.order (FI p.2) (FI p.2) == some .eq) = true := by
  have := h.sml
  exact ⟨by rw [cmp_eq _ _ (by omega) (by omega)]; simp, by rw [cmp_eq _ _ (by omega) (by omega)]; simp⟩

end Go.Proofs.Ytcdjofneijlbgaa.A
