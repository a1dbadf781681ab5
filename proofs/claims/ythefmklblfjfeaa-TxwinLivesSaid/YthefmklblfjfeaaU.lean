/- The window as the list of what was sent, counted on: each acknowledged or not. -/
import Derived.Test.YthefmklblfjfeaaN
namespace Go.Proofs.Ythefmklblfjfeaa.N

/-- How many, from the first on, are acknowledged. -/
def fst (D : List Bool) : Nat := (D.takeWhile id).length
theorem fst_le (D : List Bool) : fst D ≤ D.length := by
  unfold fst; exact (List.takeWhile_prefix id).length_le
theorem fst_cons (x : Bool) (D : List Bool) : fst (x :: D) = if x = true then fst D + 1 else 0 := by
  unfold fst; cases x <;> simp
theorem fst_below : ∀ (D : List Bool) (i : Nat), i < fst D → D.getD i false = true
  | [], i, h => by simp [fst] at h
  | x :: D, i, h => by
    rw [fst_cons] at h
    cases x with
    | false => simp at h
    | true =>
      simp at h
      cases i with
      | zero => rfl
      | succ i => simpa using fst_below D i (by omega)
theorem fst_at : ∀ (D : List Bool), D.getD (fst D) false = false
  | [] => rfl
  | x :: D => by
    rw [fst_cons]
    cases x with
    | false => rfl
    | true => simpa using fst_at D
/-- It is the only number that is so. -/
theorem fst_is (D : List Bool) (k : Nat) (h1 : ∀ i, i < k → D.getD i false = true) (h2 : D.getD k false = false) : fst D = k := by
  rcases Nat.lt_trichotomy (fst D) k with h | h | h
  · have := h1 _ h; rw [fst_at] at this; cases this
  · exact h
  · have := fst_below D k h; rw [h2] at this; cases this

theorem getD_ge {D : List Bool} {i : Nat} (h : D.length ≤ i) : D.getD i false = false := by
  rw [List.getD_eq_getElem?_getD, List.getElem?_eq_none h]; rfl
theorem getD_setB (D : List Bool) (i k : Nat) (v : Bool) (h : i < D.length) : (D.set i v).getD k false = if k = i then v else D.getD k false := by
  simp only [List.getD_eq_getElem?_getD, List.getElem?_set]
  by_cases hk : k = i
  · subst hk; simp [h]
  · rw [if_neg hk, if_neg (fun e => hk e.symm)]
theorem getD_app (D : List Bool) (k : Nat) : (D ++ [false]).getD k false = D.getD k false := by
  simp only [List.getD_eq_getElem?_getD]
  by_cases h : k < D.length
  · rw [List.getElem?_append_left h]
  · rw [List.getElem?_append_right (by omega), List.getElem?_eq_none (show D.length ≤ k by omega)]
    by_cases h2 : k - D.length = 0
    · rw [h2]; rfl
    · rw [List.getElem?_eq_none (by simp; omega)]
theorem fst_app (D : List Bool) : fst (D ++ [false]) = fst D :=
  fst_is _ _ (fun i hi => by rw [getD_app]; exact fst_below D i hi) (by rw [getD_app]; exact fst_at D)

/-- What the map of acknowledged ones holds. -/
def fD (M : Nat) (D : List Bool) (q : Int) : Bool := (List.range D.length).any fun i => decide (fst D ≤ i) && decide (((i % M : Nat) : Int) = q) && D.getD i false
theorem fD_iff (M : Nat) (D : List Bool) (q : Int) : fD M D q = true ↔ ∃ i, fst D ≤ i ∧ i < D.length ∧ ((i % M : Nat) : Int) = q ∧ D.getD i false = true := by
  unfold fD
  rw [List.any_eq_true]
  constructor
  · rintro ⟨i, hi, h⟩
    simp only [Bool.and_eq_true, decide_eq_true_eq] at h
    exact ⟨i, h.1.1, List.mem_range.1 hi, h.1.2, h.2⟩
  · rintro ⟨i, h1, h2, h3, h4⟩
    exact ⟨i, List.mem_range.2 h2, by simp only [Bool.and_eq_true, decide_eq_true_eq]; exact ⟨⟨h1, h3⟩, h4⟩⟩

theorem mod_same {M i k : Nat} (h : i % M = k % M) (h1 : i ≤ k) (h2 : k < i + M) : i = k := by
  have h3 : (k - i) % M = 0 := (Nat.sub_mod_eq_zero_of_mod_eq h.symm)
  rw [Nat.mod_eq_of_lt (by omega)] at h3
  omega
theorem fD_at {M : Nat} {D : List Bool} (hw : D.length < fst D + M) {i : Nat} (h1 : fst D ≤ i) (h2 : i ≤ D.length) : fD M D ((i % M : Nat) : Int) = D.getD i false := by
  cases hv : D.getD i false with
  | true =>
    rw [fD_iff]
    refine ⟨i, h1, ?_, rfl, hv⟩
    by_cases h : i < D.length
    · exact h
    · rw [getD_ge (by omega)] at hv; cases hv
  | false =>
    rw [Bool.eq_false_iff]
    intro h
    obtain ⟨j, j1, j2, j3, j4⟩ := (fD_iff _ _ _).1 h
    have j3' : j % M = i % M := by exact_mod_cast j3
    have : j = i := by
      rcases Nat.le_total j i with hl | hl
      · exact mod_same j3' hl (by omega)
      · exact (mod_same j3'.symm hl (by omega)).symm
    subst this
    rw [hv] at j4; cases j4
theorem fD_app (M : Nat) (D : List Bool) (q : Int) : fD M (D ++ [false]) q = fD M D q := by
  rw [Bool.eq_iff_iff, fD_iff, fD_iff]
  constructor
  · rintro ⟨i, h1, h2, h3, h4⟩
    rw [fst_app] at h1
    rw [getD_app] at h4
    by_cases h : i < D.length
    · exact ⟨i, h1, h, h3, h4⟩
    · rw [getD_ge (by omega)] at h4; cases h4
  · rintro ⟨i, h1, h2, h3, h4⟩
    exact ⟨i, by rw [fst_app]; exact h1, by simp; omega, h3, by rw [getD_app]; exact h4⟩

/-- Of an open one that is acknowledged. -/
theorem ack_step {M : Nat} {D : List Bool} (hw : D.length < fst D + M) {i0 : Nat} (h1 : fst D ≤ i0) (h2 : i0 < D.length) :
    fst D ≤ fst (D.set i0 true) ∧
    (∀ i, i < fst (D.set i0 true) - fst D → (if (((fst D + i) % M : Nat) : Int) = ((i0 % M : Nat) : Int) then true else fD M D (((fst D + i) % M : Nat) : Int)) = true) ∧
    (if ((fst (D.set i0 true) % M : Nat) : Int) = ((i0 % M : Nat) : Int) then true else fD M D ((fst (D.set i0 true) % M : Nat) : Int)) = false ∧
    ∀ y : Int, ((if y = ((i0 % M : Nat) : Int) then true else fD M D y) && (List.range (fst (D.set i0 true) - fst D)).all fun i => y != (((fst D + i) % M : Nat) : Int)) = fD M (D.set i0 true) y := by
  have hl : (D.set i0 true).length = D.length := List.length_set
  have hg := fun k => getD_setB D i0 k true h2
  have hle : fst D ≤ fst (D.set i0 true) := by
    rcases Nat.lt_or_ge (fst (D.set i0 true)) (fst D) with h | h
    · have a := fst_at (D.set i0 true)
      rw [hg] at a
      split at a
      · cases a
      · rw [fst_below D _ h] at a; cases a
    · exact h
  have hle2 : fst (D.set i0 true) ≤ D.length := by rw [← hl]; exact fst_le _
  refine ⟨hle, ?_, ?_, ?_⟩
  · intro i hi
    split
    · rfl
    · rename_i hne
      rw [fD_at hw (by omega) (by omega)]
      have hb := fst_below (D.set i0 true) (fst D + i) (by omega)
      rw [hg] at hb
      split at hb
      · rename_i e; exact absurd (by rw [e]) hne
      · exact hb
  · have a := fst_at (D.set i0 true)
    rw [hg] at a
    split at a
    · cases a
    · rename_i hne
      rw [if_neg, fD_at hw hle hle2]
      · exact a
      · intro e
        have e' : fst (D.set i0 true) % M = i0 % M := by exact_mod_cast e
        apply hne
        rcases Nat.le_total (fst (D.set i0 true)) i0 with h | h
        · exact mod_same e' h (by omega)
        · exact (mod_same e'.symm h (by omega)).symm
  · intro y
    rw [Bool.eq_iff_iff, fD_iff, Bool.and_eq_true, List.all_eq_true]
    constructor
    · rintro ⟨a, c⟩
      have key : ∀ i, fst D ≤ i → i < D.length → ((i % M : Nat) : Int) = y → fst (D.set i0 true) ≤ i := fun i x1 x2 x3 => by
        rcases Nat.lt_or_ge i (fst (D.set i0 true)) with h | h
        · have := c (i - fst D) (List.mem_range.2 (by omega))
          rw [show fst D + (i - fst D) = i by omega, x3] at this
          simp at this
        · exact h
      split at a
      · rename_i e
        exact ⟨i0, key i0 h1 h2 e.symm, by rw [hl]; exact h2, e.symm, by rw [hg, if_pos rfl]⟩
      · obtain ⟨i, x1, x2, x3, x4⟩ := (fD_iff _ _ _).1 a
        exact ⟨i, key i x1 x2 x3, by rw [hl]; exact x2, x3, by rw [hg]; split; rfl; exact x4⟩
    · rintro ⟨i, x1, x2, x3, x4⟩
      rw [hl] at x2
      refine ⟨?_, fun j hj => ?_⟩
      · split
        · rfl
        · rename_i hne
          rw [fD_iff]
          rw [hg] at x4
          split at x4
          · rename_i e; subst e; exact absurd x3.symm hne
          · exact ⟨i, by omega, x2, x3, x4⟩
      · have hj := List.mem_range.1 hj
        rw [← x3]
        have : ¬ i % M = (fst D + j) % M := fun e => by
          have := mod_same e.symm (by omega) (by omega)
          omega
        simp only [bne_iff_ne, ne_eq]
        exact_mod_cast this
end Go.Proofs.Ythefmklblfjfeaa.N
