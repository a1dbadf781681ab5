/- Points made of small numbers. -/
import Derived.Test.YtcdjofneijlbgaaRF
import Derived.IntWalk
namespace Go.Proofs.Ytcdjofneijlbgaa.A
open Go.RowKit Go.Proofs.Ytcdjofneijlbgaa.K Go.Proofs.Ytcdjofneijlbgaa.F Go.Proofs.Ytcdjofneijlbgaa.N
set_option linter.unusedVariables false
set_option linter.unusedSimpArgs false

theorem i8_getD {zs : List Int} (h : ∀ z ∈ zs, (Lit.int .i8 z).wf = true) (i : Nat) : -128 ≤ zs.getD i 0 ∧ zs.getD i 0 ≤ 127 := by
  rw [List.getD_eq_getElem?_getD]
  by_cases hi : i < zs.length
  · rw [List.getElem?_eq_getElem hi]; exact i8_of (h _ (List.getElem_mem _))
  · rw [List.getElem?_eq_none (by omega)]; exact ⟨by decide, by decide⟩
theorem low_sml {L : List Pt} (h : Low L) : Sml L := fun p hp => by have := h p hp; omega

end Go.Proofs.Ytcdjofneijlbgaa.A
