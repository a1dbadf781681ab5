/- Signals added up: the plain law. -/
import Derived.Test.YtcdjofneijlbgaaCK
import Derived.Test.YtcdjofneijlbgaaCN
namespace Go.Proofs.Ytcdjofneijlbgaa.A
open Go.RowKit Go.Proofs.Ytcdjofneijlbgaa.K Go.Proofs.Ytcdjofneijlbgaa.F Go.Proofs.Ytcdjofneijlbgaa.N
set_option linter.unusedVariables false
set_option linter.unusedSimpArgs false

theorem clo_take (bs : List Nat) : (clo bs).take ((clo bs).length - 2) = bs := by
  rw [clo_len, Nat.add_sub_cancel]
  unfold clo
  rw [List.take_append_of_le_length (Nat.le_refl _), List.take_length]
theorem op_clo (bs : List Nat) : opE (clo bs) = 0 ∧ opL (clo bs) = bs := by
  have hE : opE (clo bs) = 0 := by
    unfold opE
    rw [if_neg (by rw [clo_len]; omega), clo_take, if_pos rfl]
  exact ⟨hE, by unfold opL; rw [if_pos hE, clo_take]⟩
/-- Where the nearest points are a block's signal, the block is heard. -/
theorem hear_sgl {bs : List Nat} (h : ∀ c ∈ bs, c < 256) {X : List Pt} (hX : hearN X = sgl bs) : hearT X = true ∧ hearB X = bs := by
  have h1 : okB (sgl bs) = true := okB_ofL _
  have h2 : outB (sgl bs) = clo bs := outB_ofL _ (clo_lt h)
  obtain ⟨e1, e2⟩ := op_clo bs
  unfold hearT hearB
  rw [hX, h2, h1]
  exact ⟨decide_eq_true ⟨rfl, e1⟩, by rw [if_pos rfl, e2]⟩
/-- What noise is added to point q by a list. -/
def nzA (ns : List Int) (q : Nat) : Pt := if 2 * q + 1 < ns.length then (ns.getD (2 * q) 0, ns.getD (2 * q + 1) 0) else (0, 0)
/-- By the first i of such lists. -/
def nzS (NS : List (List Int)) (q : Nat) : Nat → Pt
  | 0 => (0, 0)
  | i + 1 => ((nzS NS q i).1 + (nzA (NS.getD i []) q).1, (nzS NS q i).2 + (nzA (NS.getD i []) q).2)
theorem nzL_at (S : List Pt) (ns : List Int) (k : Int) : ∀ J q, J ≤ S.length → (nzL S ns k J).getD q (0, 0) = if q < J then ((S.getD q (0, 0)).1 + ns.getD (2 * q) 0 * k, (S.getD q (0, 0)).2 + ns.getD (2 * q + 1) 0 * k) else S.getD q (0, 0)
  | 0, q, _ => by rw [if_neg (by omega)]; rfl
  | J + 1, q, h => by
    have h0 := nzL_late S ns k J J (Nat.le_refl _)
    have hl := nzL_len S ns k J
    unfold nzL
    rw [h0, List.getD_eq_getElem?_getD, List.getElem?_set]
    by_cases hq : J = q
    · subst hq
      rw [if_pos rfl, if_pos (by omega), if_pos (by omega)]; rfl
    · rw [if_neg hq, ← List.getD_eq_getElem?_getD, nzL_at S ns k J q (by omega)]
      by_cases h1 : q < J
      · rw [if_pos h1, if_pos (by omega)]
      · rw [if_neg h1, if_neg (by omega)]
/-- A signal with noise. -/
def sigN (S : List Pt) (ns : List Int) : List Pt := nzL S ns 1 (min S.length (ns.length / 2))
theorem sigN_len (S : List Pt) (ns : List Int) : (sigN S ns).length = S.length := nzL_len _ _ _ _
theorem sigN_at (S : List Pt) (ns : List Int) (q : Nat) (h : q < S.length) : (sigN S ns).getD q (0, 0) = ((S.getD q (0, 0)).1 + (nzA ns q).1, (S.getD q (0, 0)).2 + (nzA ns q).2) := by
  unfold sigN nzA
  rw [nzL_at _ _ _ _ _ (by omega)]
  by_cases h1 : 2 * q + 1 < ns.length
  · rw [if_pos (by omega), if_pos h1, Int.mul_one, Int.mul_one]
  · rw [if_neg (by omega), if_neg h1]; simp
/-- What is held behind i + 1 of them. -/
def heldN (S : List Pt) (NS : List (List Int)) : Nat → List Pt
  | 0 => sigN S (NS.getD 0 [])
  | i + 1 => mixL (heldN S NS i) (sigN S (NS.getD (i + 1) [])) S.length
theorem heldN_len (S : List Pt) (NS : List (List Int)) : ∀ i, (heldN S NS i).length = S.length
  | 0 => sigN_len _ _
  | i + 1 => mixL_len _ _ _
theorem heldN_at (S : List Pt) (NS : List (List Int)) (q : Nat) (h : q < S.length) : ∀ i, (heldN S NS i).getD q (0, 0) = (((i : Int) + 1) * (S.getD q (0, 0)).1 + (nzS NS q (i + 1)).1, ((i : Int) + 1) * (S.getD q (0, 0)).2 + (nzS NS q (i + 1)).2)
  | 0 => by
    show (sigN S (NS.getD 0 [])).getD q (0, 0) = _
    rw [sigN_at _ _ _ h]
    simp [nzS]
  | i + 1 => by
    have ih := heldN_at S NS q h i
    show (mixL (heldN S NS i) (sigN S (NS.getD (i + 1) [])) S.length).getD q (0, 0) = _
    rw [mixL_at _ _ _ _ h, ih, sigN_at _ _ _ h]
    have key : ∀ s a b : Int, (((i : Nat) : Int) + 1) * s + a + (s + b) = (((i + 1 : Nat) : Int) + 1) * s + (a + b) := fun s a b => by
      push_cast
      rw [Int.add_mul, Int.add_mul, Int.add_mul, Int.one_mul]
      omega
    exact Prod.ext (key _ _ _) (key _ _ _)
theorem sg_sum {n s x : Int} (hn : 1 ≤ n) (hs : s = 1 ∨ s = -1) (h1 : x < n) (h2 : -n < x) : sg (n * s + x) = s := by
  unfold sg
  rcases hs with rfl | rfl
  · rw [if_neg (by omega)]
  · rw [if_pos (by omega)]
/-- THE PLAIN LAW. -/
theorem adds_law {bs : List Nat} (h256 : ∀ c ∈ bs, c < 256) (NS : List (List Int)) (m : Nat) (hq : ∀ q, q < (sgl bs).length → ((nzS NS q (m + 1)).1 < (m : Int) + 1 ∧ -((m : Int) + 1) < (nzS NS q (m + 1)).1) ∧ ((nzS NS q (m + 1)).2 < (m : Int) + 1 ∧ -((m : Int) + 1) < (nzS NS q (m + 1)).2)) :
    hearT (heldN (sgl bs) NS m) = true ∧ hearB (heldN (sgl bs) NS m) = bs := by
  refine hear_sgl h256 ?_
  have hl := heldN_len (sgl bs) NS m
  refine ext_getD (by unfold hearN; rw [List.length_map, hl]) fun q hq2 => ?_
  have hq3 : q < (sgl bs).length := by unfold hearN at hq2; rw [List.length_map, hl] at hq2; exact hq2
  have e : (hearN (heldN (sgl bs) NS m)).getD q (0, 0) = nearp ((heldN (sgl bs) NS m).getD q (0, 0)) := by
    unfold hearN
    rw [List.getD_eq_getElem?_getD, List.getElem?_map, List.getD_eq_getElem?_getD, List.getElem?_eq_getElem (by rw [hl]; exact hq3)]; rfl
  rw [e, heldN_at _ _ _ hq3]
  obtain ⟨⟨a1, a2⟩, ⟨b1, b2⟩⟩ := hq q hq3
  have h4 : Four ((sgl bs).getD q (0, 0)) := ofL_four _ _ (mem_getD hq3)
  unfold nearp
  unfold Four at h4
  simp only
  rw [sg_sum (by omega) h4.1 a1 a2, sg_sum (by omega) h4.2 b1 b2]
end Go.Proofs.Ytcdjofneijlbgaa.A
