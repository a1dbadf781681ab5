/- What Give comes to, in plain numbers. -/
import Derived.Test.YtiifepajnhdfjaaG
namespace Go.Proofs.Ytiifepajnhdfjaa.A
set_option linter.unusedVariables false
set_option linter.unusedSimpArgs false

/-- In the course of a Give: users, what each wants still, what each got, what is left of the total. -/
structure GS where
  U : List US
  L : List Int
  G : List Int
  t : Int
/-- How much comes at once. -/
def piece (l t : Int) : Int := if t < (if l < 64 then l else 64) then t else (if l < 64 then l else 64)
def addS (n : Int) (u : US) : US := { u with sv := u.sv + n }
def stepAt (s : GS) (i : Nat) : GS :=
  let n := piece (s.L.getD i 0) s.t
  ⟨s.U.set i (addS n (s.U.getD i u0)), s.L.set i (s.L.getD i 0 - n), s.G.set i (s.G.getD i 0 + n), s.t - n⟩
def stepG (s : GS) : Option GS := if 0 < s.t then (bestTo s.U s.L s.U.length).map (stepAt s) else none
def runG : Nat → GS → GS
  | 0, s => s
  | k + 1, s => match stepG s with
    | none => s
    | some s' => runG k s'
theorem bestTo_pos (U : List US) (L : List Int) : ∀ i b, bestTo U L i = some b → 0 < L.getD b 0
  | 0, b, h => by simp [bestTo] at h
  | i + 1, b, h => by
    unfold bestTo at h
    have ih := bestTo_pos U L i
    split at h
    · rename_i hp
      split at h
      · simp at h; subst h; exact hp
      · rename_i b' hb'
        split at h
        · simp at h; subst h; exact hp
        · simp at h; subst h; exact ih _ hb'
    · exact ih b h
theorem piece_pos {l t : Int} (h1 : 0 < l) (h2 : 0 < t) : 0 < piece l t ∧ piece l t ≤ l ∧ piece l t ≤ t ∧ piece l t ≤ 64 := by
  unfold piece
  by_cases h : l < 64
  · rw [if_pos h]; split <;> omega
  · rw [if_neg h]; split <;> omega
theorem step_t {s s' : GS} (h : stepG s = some s') : 0 < s.t ∧ 0 ≤ s'.t ∧ s'.t < s.t := by
  unfold stepG at h
  split at h
  · rename_i ht
    obtain ⟨b, hb, rfl⟩ := Option.map_eq_some_iff.1 h
    have := piece_pos (bestTo_pos _ _ _ _ hb) ht
    exact ⟨ht, by show 0 ≤ s.t - _; omega, by show s.t - _ < s.t; omega⟩
  · cases h
theorem runG_fuel : ∀ (k : Nat) (s : GS), s.t.toNat ≤ k → runG k s = runG s.t.toNat s
  | 0, s, h => by rw [show s.t.toNat = 0 by omega]
  | k + 1, s, h => by
    cases hs : stepG s with
    | none =>
      have e : ∀ m, runG m s = s := fun m => by
        cases m with
        | zero => rfl
        | succ m => simp only [runG, hs]
      rw [e, e]
    | some s' =>
      obtain ⟨h1, h2, h3⟩ := step_t hs
      have hk : s'.t.toNat ≤ k := by omega
      obtain ⟨m, hm⟩ : ∃ m, s.t.toNat = m + 1 := ⟨s.t.toNat - 1, by omega⟩
      have hm2 : s'.t.toNat ≤ m := by omega
      rw [hm]
      simp only [runG, hs]
      rw [runG_fuel k s' hk, runG_fuel m s' hm2]
termination_by k => k
def fin (s : GS) : GS := runG s.t.toNat s
theorem fin_step {s s' : GS} (h : stepG s = some s') : fin s = fin s' := by
  obtain ⟨h1, h2, h3⟩ := step_t h
  unfold fin
  obtain ⟨m, hm⟩ : ∃ m, s.t.toNat = m + 1 := ⟨s.t.toNat - 1, by omega⟩
  rw [hm]
  simp only [runG, h]
  exact runG_fuel m s' (by omega)
theorem fin_none {s : GS} (h : stepG s = none) : fin s = s := by
  unfold fin
  cases s.t.toNat with
  | zero => rfl
  | succ m => simp only [runG, h]

/-- What was served, divided by the weight, is at most R. -/
def Rat (U : List US) (R : Int) : Prop := ∀ u ∈ U, 1 ≤ u.wt ∧ u.wt ≤ 16 ∧ 0 ≤ u.sv ∧ u.sv ≤ u.wt * R
theorem Rat.fit {U : List US} {R : Int} (h : Rat U R) (hR : R ≤ 10000000000) : Fit U := fun u hu => by
  obtain ⟨h1, h2, h3, h4⟩ := h u hu
  refine ⟨h1, h2, h3, ?_⟩
  have : u.wt * R ≤ u.wt * 10000000000 := Int.mul_le_mul_of_nonneg_left hR (by omega)
  omega
theorem mem_setU {U : List US} {i : Nat} {x u : US} (h : u ∈ U.set i x) : u ∈ U ∨ u = x := List.mem_or_eq_of_mem_set h
theorem least_rat {U : List US} {L : List Int} {R : Int} (h : Rat U R) : ∀ i, i ≤ U.length → leastTo U L i ≤ R ∨ leastTo U L i = -1
  | 0, _ => .inr rfl
  | i + 1, hi => by
    unfold leastTo
    have ih := least_rat (L := L) h i (by omega)
    split
    · left
      obtain ⟨h1, h2, h3, h4⟩ := h _ (memU (U := U) (i := i) (by omega))
      have := Int.ediv_le_ediv (show 0 < (U.getD i u0).wt by omega) h4
      rw [Int.mul_ediv_cancel_left _ (show (U.getD i u0).wt ≠ 0 by omega)] at this
      exact this
    · exact ih
theorem rest_rat {U : List US} {L : List Int} {R q : Int} (h : Rat U R) (hq : q ≤ R ∨ q = -1) : ∀ i, i ≤ U.length → Rat (restTo U L q i) R
  | 0, _ => h
  | i + 1, hi => by
    unfold restTo
    have ih := rest_rat (L := L) h hq i (by omega)
    split
    · rename_i hc
      intro u hu
      rcases mem_setU hu with hu | rfl
      · exact ih u hu
      · obtain ⟨h1, h2, h3, h4⟩ := h _ (memU (U := U) (i := i) (by omega))
        have hsv : (lift q (U.getD i u0)).sv = if (U.getD i u0).sv < (U.getD i u0).wt * q then (U.getD i u0).wt * q else (U.getD i u0).sv := rfl
        refine ⟨h1, h2, ?_, ?_⟩
        · rw [hsv]; split <;> omega
        · rw [hsv]
          show _ ≤ (U.getD i u0).wt * R
          split
          · exact Int.mul_le_mul_of_nonneg_left (by omega) (by omega)
          · exact h4
    · exact ih
theorem step_rat {s s' : GS} {R : Int} (h : Rat s.U R) (hs : stepG s = some s') : Rat s'.U (R + (s.t - s'.t)) := by
  obtain ⟨h1, h2, h3⟩ := step_t hs
  unfold stepG at hs
  rw [if_pos h1] at hs
  obtain ⟨b, hb, rfl⟩ := Option.map_eq_some_iff.1 hs
  have hpc := piece_pos (bestTo_pos _ _ _ _ hb) h1
  have hlt := bestTo_lt _ _ _ _ hb
  obtain ⟨n, hn⟩ : ∃ n, piece (s.L.getD b 0) s.t = n := ⟨_, rfl⟩
  have ht : (stepAt s b).t = s.t - n := by rw [← hn]; rfl
  have hU : (stepAt s b).U = s.U.set b (addS n (s.U.getD b u0)) := by rw [← hn]; rfl
  rw [hn] at hpc
  rw [ht, hU, show R + (s.t - (s.t - n)) = R + n by omega]
  intro u hu
  rcases mem_setU hu with hu | rfl
  · obtain ⟨a1, a2, a3, a4⟩ := h u hu
    refine ⟨a1, a2, a3, ?_⟩
    have : u.wt * R ≤ u.wt * (R + n) := Int.mul_le_mul_of_nonneg_left (by omega) (by omega)
    omega
  · obtain ⟨a1, a2, a3, a4⟩ := h _ (memU (U := s.U) (i := b) hlt)
    refine ⟨a1, a2, ?_, ?_⟩
    · show 0 ≤ (s.U.getD b u0).sv + n; omega
    · show (s.U.getD b u0).sv + n ≤ (s.U.getD b u0).wt * (R + n)
      rw [Int.mul_add]
      have : 1 * n ≤ (s.U.getD b u0).wt * n := Int.mul_le_mul_of_nonneg_right a1 (by omega)
      omega
end Go.Proofs.Ytiifepajnhdfjaa.A
