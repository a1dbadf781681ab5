/- SchedFair's plain law. -/
import Derived.Test.YtiifepajnhdfjaaR
namespace Go.Proofs.Ytiifepajnhdfjaa.A
open Go.RowKit Go.Proofs.Ytiifepajnhdfjaa.K
set_option linter.unusedVariables false
set_option linter.unusedSimpArgs false

theorem getD_setU (L : List US) (i j : Nat) (v : US) : (L.set i v).getD j u0 = if i = j ∧ j < L.length then v else L.getD j u0 := by
  rw [List.getD_eq_getElem?_getD, List.getElem?_set, List.getD_eq_getElem?_getD]
  by_cases h : i = j
  · subst h
    by_cases h2 : i < L.length
    · simp [h2]
    · simp [h2]
  · simp [h]
theorem runG_inv {P : GS → Prop} (h : ∀ s s', P s → stepG s = some s' → P s') : ∀ k s, P s → P (runG k s)
  | 0, s, hs => hs
  | k + 1, s, hs => by
    unfold runG
    cases hq : stepG s with
    | none => exact hs
    | some s' => exact runG_inv h k s' (h s s' hs hq)
theorem fin_inv {P : GS → Prop} (h : ∀ s s', P s → stepG s = some s' → P s') {s : GS} (hs : P s) : P (fin s) := runG_inv h _ s hs

/-- Users 0, 1, .. with these weights. -/
def Shp (U : List US) (ws : List Int) : Prop := U.length = ws.length ∧ ∀ j, j < ws.length → (U.getD j u0).id = j ∧ (U.getD j u0).wt = ws.getD j 0
theorem Shp.place {U : List US} {ws : List Int} (h : Shp U ws) {j : Nat} (hj : j < ws.length) : fi U j = j := by
  have hl := fi_le U j
  have h1 : fi U j ≤ j := by
    by_cases h2 : j < A.fi U j
    · exact absurd (h.2 j hj).1 (fi_lt_not h2)
    · omega
  have h3 := fi_at (U := U) (x := j) (by rw [h.1]; omega)
  rw [(h.2 _ (by omega)).1] at h3
  omega
theorem Shp.new {U : List US} {ws : List Int} (h : Shp U ws) : fi U ws.length = ws.length := by
  have hl := fi_le U ws.length
  by_cases h2 : A.fi U ws.length < U.length
  · have h3 := fi_at h2
    rw [(h.2 _ (by have := h.1; omega)).1] at h3
    omega
  · have := h.1; omega
/-- Of any two, what they were served, divided by the weights, differs by at most 64. -/
def Fair (U : List US) : Prop := ∀ a b, a < U.length → b < U.length → (U.getD a u0).sv * (U.getD b u0).wt - (U.getD b u0).sv * (U.getD a u0).wt ≤ 64 * ((U.getD a u0).wt * (U.getD b u0).wt)

theorem cross {si wi sb wb sj wj : Int} (hi : 0 < wi) (hb : 0 < wb) (hj : 0 < wj) (h1 : si * wb ≤ sb * wi) (h2 : sb * wj ≤ sj * wb) : si * wj ≤ sj * wi := by
  have e1 : si * wb * wj ≤ sb * wi * wj := Int.mul_le_mul_of_nonneg_right h1 (by omega)
  have e2 : sb * wj * wi ≤ sj * wb * wi := Int.mul_le_mul_of_nonneg_right h2 (by omega)
  have e3 : sb * wi * wj = sb * wj * wi := by rw [Int.mul_assoc, Int.mul_comm wi, ← Int.mul_assoc]
  have e4 : (si * wj) * wb ≤ (sj * wi) * wb := by
    rw [Int.mul_assoc, Int.mul_comm wj, ← Int.mul_assoc, Int.mul_assoc sj, Int.mul_comm wi, ← Int.mul_assoc]; omega
  exact Int.le_of_mul_le_mul_right e4 hb
theorem bestTo_min {U : List US} {L : List Int} (hw : ∀ j, j < U.length → 1 ≤ (U.getD j u0).wt) (hL : ∀ j, j < U.length → 0 < L.getD j 0) : ∀ i, 0 < i → i ≤ U.length →
    ∃ b, bestTo U L i = some b ∧ b < i ∧ ∀ j, j < i → (U.getD b u0).sv * (U.getD j u0).wt ≤ (U.getD j u0).sv * (U.getD b u0).wt
  | 0, h, _ => absurd h (by omega)
  | i + 1, _, hi => by
    unfold bestTo
    rw [if_pos (hL i (by omega))]
    by_cases h0 : i = 0
    · subst h0
      exact ⟨0, rfl, by omega, fun j hj => by obtain rfl : j = 0 := by omega
                                              exact Int.le_refl _⟩
    · obtain ⟨b, hb, hbi, hmin⟩ := bestTo_min hw hL i (by omega) (by omega)
      rw [hb]
      by_cases hc : (U.getD i u0).sv * (U.getD b u0).wt < (U.getD b u0).sv * (U.getD i u0).wt
      · refine ⟨i, by simp only [if_pos hc], by omega, fun j hj => ?_⟩
        by_cases hji : j = i
        · subst hji; exact Int.le_refl _
        · have := hw i (by omega)
          have := hw b (by omega)
          have := hw j (by omega)
          exact cross (by omega) (by omega) (by omega) (Int.le_of_lt hc) (hmin j (by omega))
      · refine ⟨b, by simp only [if_neg hc], by omega, fun j hj => ?_⟩
        by_cases hji : j = i
        · subst hji; omega
        · exact hmin j (by omega)

theorem mul_mono {a b c : Int} (h : a ≤ b) (hc : 0 ≤ c) : a * c ≤ b * c := Int.mul_le_mul_of_nonneg_right h hc
theorem fair_put {U : List US} {b : Nat} {n : Int} (hw : ∀ j, j < U.length → 1 ≤ (U.getD j u0).wt) (h : Fair U) (hb : b < U.length) (hmin : ∀ j, j < U.length → (U.getD b u0).sv * (U.getD j u0).wt ≤ (U.getD j u0).sv * (U.getD b u0).wt) (hn0 : 0 ≤ n) (hn : n ≤ 64) :
    Fair (U.set b (addS n (U.getD b u0))) := by
  intro x y hx hy
  rw [List.length_set] at hx hy
  rw [getD_setU, getD_setU]
  by_cases h1 : b = x
  · subst h1
    rw [if_pos ⟨rfl, hx⟩]
    by_cases h2 : b = y
    · subst h2
      rw [if_pos ⟨rfl, hx⟩]
      have hwb := hw b hb
      have h3 := Int.mul_le_mul hwb hwb (show (0 : Int) ≤ 1 by omega) (by omega)
      rw [Int.sub_self]
      show 0 ≤ 64 * ((U.getD b u0).wt * (U.getD b u0).wt)
      omega
    · rw [if_neg (by omega)]
      show ((U.getD b u0).sv + n) * (U.getD y u0).wt - (U.getD y u0).sv * (U.getD b u0).wt ≤ 64 * ((U.getD b u0).wt * (U.getD y u0).wt)
      have hwb := hw b hb
      have hwy := hw y hy
      have h3 := hmin y hy
      have h4 := mul_mono hn (show 0 ≤ (U.getD y u0).wt by omega)
      have h5 := mul_mono hwb (show 0 ≤ (U.getD y u0).wt by omega)
      rw [Int.add_mul]
      omega
  · rw [if_neg (by omega)]
    by_cases h2 : b = y
    · subst h2
      rw [if_pos ⟨rfl, hb⟩]
      show (U.getD x u0).sv * (U.getD b u0).wt - ((U.getD b u0).sv + n) * (U.getD x u0).wt ≤ 64 * ((U.getD x u0).wt * (U.getD b u0).wt)
      have h3 := h x b hx hb
      have hwx := hw x hx
      have h4 := mul_mono hn0 (show 0 ≤ (U.getD x u0).wt by omega)
      rw [Int.add_mul]
      omega
    · rw [if_neg (by omega)]
      exact h x y hx hy

/-- In the course of a Give where all want enough. -/
def FI (ws : List Int) (s : GS) : Prop := Shp s.U ws ∧ Fair s.U ∧ ∀ j, j < ws.length → 900000 + s.t ≤ s.L.getD j 0
theorem fi_step {ws : List Int} (hws : ∀ j, j < ws.length → 1 ≤ ws.getD j 0) (s s' : GS) (h : FI ws s) (hs : stepG s = some s') : FI ws s' := by
  obtain ⟨hS, hF, hL⟩ := h
  obtain ⟨ht, ht2, ht3⟩ := step_t hs
  have hw : ∀ j, j < s.U.length → 1 ≤ (s.U.getD j u0).wt := fun j hj => by rw [(hS.2 j (by rw [← hS.1]; exact hj)).2]; exact hws j (by rw [← hS.1]; exact hj)
  unfold stepG at hs
  rw [if_pos ht] at hs
  obtain ⟨b, hb, rfl⟩ := Option.map_eq_some_iff.1 hs
  have hbl := bestTo_lt _ _ _ _ hb
  obtain ⟨b', hb', -, hmin⟩ := bestTo_min (L := s.L) hw (fun j hj => by have := hL j (by rw [← hS.1]; exact hj); omega) s.U.length (by omega) (Nat.le_refl _)
  rw [hb] at hb'
  injection hb' with hb'
  subst hb'
  have hp := piece_pos (bestTo_pos _ _ _ _ hb) ht
  obtain ⟨n, hn⟩ : ∃ n, piece (s.L.getD b 0) s.t = n := ⟨_, rfl⟩
  have hU : stepAt s b = ⟨s.U.set b (addS n (s.U.getD b u0)), s.L.set b (s.L.getD b 0 - n), s.G.set b (s.G.getD b 0 + n), s.t - n⟩ := by unfold stepAt; rw [hn]
  rw [hn] at hp
  rw [hU]
  refine ⟨⟨by rw [List.length_set]; exact hS.1, fun j hj => ?_⟩, fair_put hw hF hbl hmin (by omega) (by omega), fun j hj => ?_⟩
  · show ((s.U.set b (addS n (s.U.getD b u0))).getD j u0).id = j ∧ _
    rw [getD_setU]
    split
    · rename_i hc
      obtain ⟨rfl, _⟩ := hc
      exact hS.2 b hj
    · exact hS.2 j hj
  · show 900000 + (s.t - n) ≤ (s.L.set b (s.L.getD b 0 - n)).getD j 0
    rw [getD_setI]
    have h1 := hL j hj
    split
    · rename_i hc
      obtain ⟨rfl, _⟩ := hc
      omega
    · omega

/-- All want 2^20. -/
def wsTo (n : Nat) : List Wn := (List.range n).map fun i : Nat => ((i : Int), (1048576 : Int))
theorem wsTo_len (n : Nat) : (wsTo n).length = n := by unfold wsTo; simp
theorem wsTo_at {n j : Nat} (h : j < n) : (wsTo n).getD j (0, 0) = ((j : Int), 1048576) := by
  unfold wsTo
  rw [List.getD_eq_getElem?_getD, List.getElem?_map, List.getElem?_range h]; rfl
theorem wsTo_step (n : Nat) : wsTo (n + 1) = wsTo n ++ [((n : Int), 1048576)] := by
  unfold wsTo; rw [List.range_succ, List.map_append]; rfl
theorem ask_fair {U : List US} {ws : List Int} (h : Shp U ws) {t : Int} (h0 : 0 ≤ t) (h1 : t ≤ 65536) : askE U t (wsTo ws.length) = 0 := by
  have a1 : farB (wsTo ws.length) = false := by
    unfold farB
    rw [wsTo_len, List.any_eq_false]
    intro j hj
    rw [wsTo_at (List.mem_range.1 hj)]
    simp
  have a2 : nonB U (wsTo ws.length) = false := by
    unfold nonB
    rw [wsTo_len, List.any_eq_false]
    intro j hj
    have hj := List.mem_range.1 hj
    rw [wsTo_at hj]
    unfold fiV
    rw [h.place hj, if_pos (by rw [h.1]; exact hj)]
    simp
  have a3 : dupB (wsTo ws.length) = false := by
    unfold dupB
    rw [wsTo_len, List.any_eq_false]
    intro j hj
    have hj := List.mem_range.1 hj
    unfold dupAt
    rw [Bool.not_eq_true, List.any_eq_false]
    intro k hk
    have hk := List.mem_range.1 hk
    rw [wsTo_at hj, wsTo_at (by omega)]
    simp; omega
  unfold askE
  rw [if_neg (by omega), if_neg (by rw [a1]; decide), if_neg (by rw [a2]; decide), if_neg (by rw [a3]; decide)]
theorem left_fair {U : List US} {ws : List Int} (h : Shp U ws) : ∀ j, j ≤ ws.length → ∀ k, k < ws.length → (leftTo U (wsTo ws.length) j).getD k 0 = if k < j then 1048576 else 0
  | 0, _, k, hk => by
    unfold leftTo
    rw [List.getD_eq_getElem?_getD, List.getElem?_replicate, if_pos (by rw [h.1]; exact hk), if_neg (by omega)]; rfl
  | j + 1, hj, k, hk => by
    unfold leftTo
    rw [wsTo_at (by omega), h.place (by omega), getD_setI, leftTo_len, left_fair h j (by omega) k hk]
    have := h.1
    by_cases h1 : j = k
    · rw [if_pos (by omega), if_pos (by omega)]
    · rw [if_neg (by omega)]
      by_cases h2 : k < j
      · rw [if_pos h2, if_pos (by omega)]
      · rw [if_neg h2, if_neg (by omega)]
theorem left_fair2 {U : List US} {ws : List Int} (h : Shp U ws) : ∀ k, 0 ≤ (leftTo U (wsTo ws.length) ws.length).getD k 0 ∧ (leftTo U (wsTo ws.length) ws.length).getD k 0 ≤ 1048576 := fun k => by
  by_cases hk : k < ws.length
  · rw [left_fair h _ (Nat.le_refl _) k hk, if_pos hk]; omega
  · rw [List.getD_eq_getElem?_getD, List.getElem?_eq_none (by rw [leftTo_len, h.1]; omega)]; simp
theorem rest_fair {U : List US} {L : List Int} {q : Int} (h : ∀ j, j < U.length → L.getD j 0 ≠ 0) : ∀ i, i ≤ U.length → restTo U L q i = U
  | 0, _ => rfl
  | i + 1, hi => by
    unfold restTo
    rw [if_neg (fun hc => h i (by omega) hc.1)]
    exact rest_fair h i (by omega)
theorem give_fair {U : List US} {ws : List Int} {t : Int} (hws : ∀ j, j < ws.length → 1 ≤ ws.getD j 0) (h : Shp U ws) (hF : Fair U) (ht : t ≤ 65536) :
    FI ws (A.fin ⟨restTo U (leftTo U (wsTo ws.length) ws.length) (leastTo U (leftTo U (wsTo ws.length) ws.length) U.length) U.length, leftTo U (wsTo ws.length) ws.length, List.replicate U.length 0, t⟩) := by
  refine fin_inv (fi_step hws) ⟨?_, ?_, fun j hj => ?_⟩
  · show Shp (restTo U _ _ U.length) ws
    rw [rest_fair (fun j hj => by rw [left_fair h _ (Nat.le_refl _) j (by rw [← h.1]; exact hj), if_pos (by rw [← h.1]; exact hj)]; decide) _ (Nat.le_refl _)]
    exact h
  · show Fair (restTo U _ _ U.length)
    rw [rest_fair (fun j hj => by rw [left_fair h _ (Nat.le_refl _) j (by rw [← h.1]; exact hj), if_pos (by rw [← h.1]; exact hj)]; decide) _ (Nat.le_refl _)]
    exact hF
  · show 900000 + t ≤ (leftTo U (wsTo ws.length) ws.length).getD j 0
    rw [left_fair h _ (Nat.le_refl _) j hj, if_pos hj]
    omega
/-- The users at the start. -/
def usTo (ws : List Int) : Nat → List US
  | 0 => []
  | k + 1 => usTo ws k ++ [⟨k, ws.getD k 0, 0⟩]
theorem usTo_len (ws : List Int) : ∀ k, (usTo ws k).length = k
  | 0 => rfl
  | k + 1 => by unfold usTo; rw [List.length_append, usTo_len ws k]; rfl
theorem usTo_at (ws : List Int) : ∀ k j, j < k → (usTo ws k).getD j u0 = ⟨j, ws.getD j 0, 0⟩
  | 0, j, h => absurd h (by omega)
  | k + 1, j, h => by
    unfold usTo
    have hl := usTo_len ws k
    rw [List.getD_eq_getElem?_getD]
    by_cases hj : j < k
    · rw [List.getElem?_append_left (by omega), ← List.getD_eq_getElem?_getD]
      exact usTo_at ws k j hj
    · obtain rfl : j = k := by omega
      rw [List.getElem?_append_right (by omega), hl, Nat.sub_self]; rfl
theorem usTo_shp (ws : List Int) : Shp (usTo ws ws.length) ws := ⟨usTo_len _ _, fun j hj => by rw [usTo_at ws _ j hj]; exact ⟨rfl, rfl⟩⟩
theorem usTo_fair (ws : List Int) (hws : ∀ j, j < ws.length → 1 ≤ ws.getD j 0) : Fair (usTo ws ws.length) := fun a b ha hb => by
  rw [usTo_len] at ha hb
  rw [usTo_at ws _ a ha, usTo_at ws _ b hb]
  have h1 := hws a ha
  have h2 := hws b hb
  have := Int.mul_nonneg (show 0 ≤ ws.getD a 0 by omega) (show 0 ≤ ws.getD b 0 by omega)
  show 0 * ws.getD b 0 - 0 * ws.getD a 0 ≤ 64 * (ws.getD a 0 * ws.getD b 0)
  omega
theorem usTo_add (ws : List Int) (k : Nat) (hk : k < 16) (h1 : 1 ≤ ws.getD k 0) (h2 : ws.getD k 0 ≤ 16) : addE (usTo ws k) k (ws.getD k 0) = 0 := by
  unfold addE
  have hl := usTo_len ws k
  have : ¬ fi (usTo ws k) k < (usTo ws k).length := fun h => by
    have h3 := fi_at h
    rw [usTo_at ws k _ (by omega)] at h3
    have h4 : ((fi (usTo ws k) k : Nat) : Int) = k := h3
    omega
  rw [if_neg (by omega), if_neg this, if_neg (by omega)]
end Go.Proofs.Ytiifepajnhdfjaa.A
