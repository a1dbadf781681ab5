/- Eight timers as a list of numbers: what runs, what a tick does. -/
namespace Go.Proofs.Ytighfhdkgfgcmaa.N

theorem getD_set (L : List Int) (i k : Nat) (v : Int) (h : i < L.length) : (L.set i v).getD k 0 = if k = i then v else L.getD k 0 := by
  rw [List.getD_eq_getElem?_getD, List.getD_eq_getElem?_getD, List.getElem?_set]
  by_cases hk : i = k
  · subst hk; simp [h]
  · have hk' : ¬ k = i := fun e => hk e.symm
    simp [hk, hk']

/-- The timers that run. -/
def runL (L : List Int) : List Nat := (List.range 8).filter fun i => decide (0 < L.getD i 0)
/-- What is left behind a tick. -/
def tickL (L : List Int) : List Int := L.map fun x => if 0 < x then x - 1 else x
/-- The timers that a tick tells. -/
def tickO (L : List Int) : List Nat := (List.range 8).filter fun i => decide (L.getD i 0 = 1)

def stepF (s : List Int × List Nat) (i : Nat) : List Int × List Nat := (s.1.set i (s.1.getD i 0 - 1), if s.1.getD i 0 = 1 then s.2 ++ [i] else s.2)

theorem fold_spec (R : List Nat) : ∀ (L : List Int) (o : List Nat), R.Nodup → (∀ i ∈ R, i < L.length) →
    (R.foldl stepF (L, o)).1.length = L.length ∧ (∀ k, (R.foldl stepF (L, o)).1.getD k 0 = if k ∈ R then L.getD k 0 - 1 else L.getD k 0) ∧
    (R.foldl stepF (L, o)).2 = o ++ R.filter fun i => decide (L.getD i 0 = 1) := by
  induction R with
  | nil => intro L o _ _; simp
  | cons i r ih =>
    intro L o hn hl
    have hi := hl i (by simp)
    have hn' := List.nodup_cons.1 hn
    have hl' : ∀ k ∈ r, k < (L.set i (L.getD i 0 - 1)).length := fun k hk => by rw [List.length_set]; exact hl k (by simp [hk])
    obtain ⟨a, b, c⟩ := ih (L.set i (L.getD i 0 - 1)) (if L.getD i 0 = 1 then o ++ [i] else o) hn'.2 hl'
    refine ⟨?_, fun k => ?_, ?_⟩
    · show (r.foldl stepF (stepF (L, o) i)).1.length = _
      rw [show stepF (L, o) i = (L.set i (L.getD i 0 - 1), if L.getD i 0 = 1 then o ++ [i] else o) from rfl, a, List.length_set]
    · show (r.foldl stepF (stepF (L, o) i)).1.getD k 0 = _
      rw [show stepF (L, o) i = (L.set i (L.getD i 0 - 1), if L.getD i 0 = 1 then o ++ [i] else o) from rfl, b, getD_set _ _ _ _ hi]
      by_cases hk : k = i
      · subst hk
        rw [if_neg hn'.1, if_pos rfl, if_pos (by simp)]
      · rw [if_neg hk]
        by_cases hr : k ∈ r
        · rw [if_pos hr, if_pos (by simp [hr])]
        · rw [if_neg hr, if_neg (by simp [hr, hk])]
    · show (r.foldl stepF (stepF (L, o) i)).2 = _
      rw [show stepF (L, o) i = (L.set i (L.getD i 0 - 1), if L.getD i 0 = 1 then o ++ [i] else o) from rfl, c]
      have hf : (r.filter fun k => decide ((L.set i (L.getD i 0 - 1)).getD k 0 = 1)) = r.filter fun k => decide (L.getD k 0 = 1) := by
        refine List.filter_congr fun k hk => ?_
        rw [getD_set _ _ _ _ hi, if_neg (fun (e : k = i) => hn'.1 (e ▸ hk))]
      rw [hf, List.filter_cons]
      by_cases h1 : L.getD i 0 = 1
      · rw [if_pos h1, if_pos (by simpa using h1)]; simp
      · rw [if_neg h1, if_neg (by simpa using h1)]

theorem runL_nodup (L : List Int) : (runL L).Nodup := List.nodup_range.sublist List.filter_sublist
theorem runL_lt (L : List Int) : ∀ i ∈ runL L, i < 8 ∧ 0 < L.getD i 0 := fun i hi => by
  simp only [runL, List.mem_filter, List.mem_range, decide_eq_true_eq] at hi
  exact hi

theorem ext_getD {L L' : List Int} (h : L.length = L'.length) (he : ∀ k, L.getD k 0 = L'.getD k 0) : L = L' := by
  refine List.ext_getElem h fun k h1 h2 => ?_
  have := he k
  rw [List.getD_eq_getElem?_getD, List.getD_eq_getElem?_getD, List.getElem?_eq_getElem h1, List.getElem?_eq_getElem h2] at this
  exact this

theorem tickL_getD (L : List Int) (k : Nat) : (tickL L).getD k 0 = if 0 < L.getD k 0 then L.getD k 0 - 1 else L.getD k 0 := by
  simp only [tickL, List.getD_eq_getElem?_getD, List.getElem?_map]
  cases L[k]? <;> simp

/-- A tick, one running timer behind the other, is a tick. -/
theorem fold_run {L : List Int} (hl : L.length = 8) : (runL L).foldl stepF (L, []) = (tickL L, tickO L) := by
  obtain ⟨a, b, c⟩ := fold_spec (runL L) L [] (runL_nodup L) (fun i hi => by have := runL_lt L i hi; omega)
  refine Prod.ext ?_ ?_
  · refine ext_getD (by rw [a]; simp [tickL]) fun k => ?_
    rw [b, tickL_getD]
    by_cases hk : k < 8
    · have hm : k ∈ runL L ↔ 0 < L.getD k 0 := by simp [runL, hk]
      simp only [hm]
    · have h0 : L.getD k 0 = 0 := by rw [List.getD_eq_getElem?_getD, List.getElem?_eq_none (by omega)]; rfl
      rw [if_neg (fun hm => hk (runL_lt L k hm).1), h0]; rfl
  · rw [c]
    simp only [List.nil_append, runL, tickO, List.filter_filter]
    refine List.filter_congr fun k _ => ?_
    by_cases h : L.getD k 0 = 1
    · rw [h]; decide
    · simp only [decide_eq_false h, Bool.false_and]
end Go.Proofs.Ytighfhdkgfgcmaa.N
