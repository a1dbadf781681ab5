/- Acknowledging the last of the open ones. -/
import Derived.Test.YthefmklblfjfeaaWW
namespace Go.Proofs.Ythefmklblfjfeaa.A
open Go.RowKit Go.Proofs.Ythefmklblfjfeaa.K Go.Proofs.Ythefmklblfjfeaa.N
set_option linter.unusedVariables false

theorem filter_last {p : Nat → Bool} {J j0 : Nat} {l : List Nat} (h : (List.range J).filter p = l ++ [j0]) :
    (List.range J).filter (fun j => p j && decide (j ≠ j0)) = l := by
  have hs : ((List.range J).filter p).Pairwise (· < ·) := List.Pairwise.sublist List.filter_sublist List.pairwise_lt_range
  have e : (List.range J).filter (fun j => p j && decide (j ≠ j0)) = ((List.range J).filter p).filter (fun j => decide (j ≠ j0)) := by
    rw [List.filter_filter]
    refine List.filter_congr fun x _ => Bool.and_comm _ _
  rw [e, h, List.filter_append]
  rw [h, List.pairwise_append] at hs
  have h1 : l.filter (fun j => decide (j ≠ j0)) = l := by
    rw [List.filter_eq_self]
    intro x hx
    have := hs.2.2 x hx j0 (by simp)
    simp; omega
  rw [h1]; simp
theorem opensL_last {b : Int} {D : List Bool} {l : List Int} {x : Int} (hw : D.length < fst D + szN b) (h : opensL b D = l ++ [x]) :
    ∃ i0, fst D ≤ i0 ∧ i0 < D.length ∧ D.getD i0 false = false ∧ x = nm b i0 ∧ opensL b (D.set i0 true) = l := by
  unfold opensL at h
  obtain ⟨l1, l2, e1, e2, e3⟩ := List.map_eq_append_iff.1 h
  obtain ⟨j0, rfl, rfl⟩ := List.map_eq_singleton_iff.1 e3
  have hmem : j0 ∈ (List.range (D.length - fst D)).filter (fun j => !D.getD (fst D + j) false) := by rw [e1]; simp
  rw [List.mem_filter, List.mem_range] at hmem
  obtain ⟨m1, m2⟩ := hmem
  have m2' : D.getD (fst D + j0) false = false := by simpa using m2
  have hlt : fst D + j0 < D.length := by omega
  refine ⟨fst D + j0, by omega, hlt, m2', rfl, ?_⟩
  have hg := fun k => getD_setB D (fst D + j0) k true hlt
  by_cases hj : j0 = 0
  · -- it is the first, and the last: none is left
    have hl1 : l1 = [] := by
      have hs : ((List.range (D.length - fst D)).filter (fun j => !D.getD (fst D + j) false)).Pairwise (· < ·) := List.Pairwise.sublist List.filter_sublist List.pairwise_lt_range
      rw [e1, List.pairwise_append] at hs
      cases l1 with
      | nil => rfl
      | cons y r => have := hs.2.2 y (by simp) j0 (by simp); omega
    have hl : l = [] := by rw [← e2, hl1]; rfl
    have e0 : opensL b D = [nm b (fst D + j0)] := by unfold opensL; rw [e1, hl1]; rfl
    rw [hl]
    rw [List.eq_nil_iff_forall_not_mem]
    intro y hy
    obtain ⟨i, x1, x2, x3, rfl⟩ := (opensL_mem _ _ _).1 hy
    rw [List.length_set] at x2
    have a := ack_step hw (i0 := fst D + j0) (by omega) hlt
    rw [hg] at x3
    split at x3
    · cases x3
    · rename_i hne
      have : nm b i ∈ opensL b D := (opensL_mem _ _ _).2 ⟨i, by have := a.1; omega, x2, x3, rfl⟩
      rw [e0] at this
      have e : nm b i = nm b (fst D + j0) := by simpa using this
      have := a.1
      exact nm_ne (b := b) (i := fst D + j0) (k := i) (by omega) (by omega) e.symm
  · have hf : fst (D.set (fst D + j0) true) = fst D := fst_is _ _ (fun i hi => by
      rw [hg]
      split
      · rfl
      · exact fst_below D i hi) (by rw [hg, if_neg (by omega)]; exact fst_at D)
    unfold opensL
    rw [hf, List.length_set, ← e2]
    have e4 : (List.range (D.length - fst D)).filter (fun j => !(D.set (fst D + j0) true).getD (fst D + j) false) = l1 := by
      rw [← filter_last e1]
      refine List.filter_congr fun j _ => ?_
      rw [hg]
      by_cases hjj : j = j0
      · subst hjj; simp
      · rw [if_neg (by omega)]; simp [hjj]
    rw [e4]
end Go.Proofs.Ythefmklblfjfeaa.A
