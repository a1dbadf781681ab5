/- SchedAll's plain law. -/
import Derived.Test.YtiifepajnhdfjaaS
namespace Go.Proofs.Ytiifepajnhdfjaa.A
open Go.RowKit Go.Proofs.Ytiifepajnhdfjaa.K
set_option linter.unusedVariables false
set_option linter.unusedSimpArgs false

theorem sum_set : ∀ (L : List Int) (i : Nat) (v : Int), i < L.length → (L.set i v).sum = L.sum - L.getD i 0 + v
  | [], i, v, h => absurd h (by simp)
  | a :: L, 0, v, _ => by simp; omega
  | a :: L, i + 1, v, h => by
    have ih := sum_set L i v (by simpa using h)
    simp only [List.set_cons_succ, List.sum_cons, List.getD_cons_succ]
    omega
/-- In the course of a Give: what each wanted is what it wants still and what it got; what was given is gone from the total. -/
structure GA (m : Nat) (L0 : List Int) (t0 : Int) (ids : List Int) (s : GS) : Prop where
  gl : s.G.length = m
  ll : s.L.length = m
  ul : s.U.length = m
  lb : ∀ j, 0 ≤ s.L.getD j 0
  gb : ∀ j, 0 ≤ s.G.getD j 0
  lg : ∀ j, s.L.getD j 0 + s.G.getD j 0 = L0.getD j 0
  sm : s.G.sum + s.t = t0
  t0 : 0 ≤ s.t
  ids : s.U.map (·.id) = ids
theorem ga_step {m : Nat} {L0 : List Int} {t0 : Int} {ids : List Int} (s s' : GS) (I : GA m L0 t0 ids s) (hs : stepG s = some s') : GA m L0 t0 ids s' := by
  obtain ⟨ht, ht2, ht3⟩ := step_t hs
  unfold stepG at hs
  rw [if_pos ht] at hs
  obtain ⟨b, hb, rfl⟩ := Option.map_eq_some_iff.1 hs
  have hbl := bestTo_lt _ _ _ _ hb
  have hp := piece_pos (bestTo_pos _ _ _ _ hb) ht
  obtain ⟨n, hn⟩ : ∃ n, piece (s.L.getD b 0) s.t = n := ⟨_, rfl⟩
  have hU : stepAt s b = ⟨s.U.set b (addS n (s.U.getD b u0)), s.L.set b (s.L.getD b 0 - n), s.G.set b (s.G.getD b 0 + n), s.t - n⟩ := by unfold stepAt; rw [hn]
  rw [hn] at hp
  rw [hU] at ht2 ⊢
  have hul := I.ul
  have hll := I.ll
  have hgl := I.gl
  refine ⟨by simp [hgl], by simp [hll], by simp [hul], fun j => ?_, fun j => ?_, fun j => ?_, ?_, ht2, ?_⟩
  · show 0 ≤ (s.L.set b _).getD j 0
    rw [getD_setI]
    have := I.lb j
    split <;> omega
  · show 0 ≤ (s.G.set b _).getD j 0
    rw [getD_setI]
    have := I.gb j
    have := I.gb b
    split <;> omega
  · show (s.L.set b _).getD j 0 + (s.G.set b _).getD j 0 = _
    rw [getD_setI, getD_setI]
    have h1 := I.lg j
    by_cases hj : b = j
    · subst hj
      rw [if_pos ⟨rfl, by omega⟩, if_pos ⟨rfl, by omega⟩]
      omega
    · rw [if_neg (by omega), if_neg (by omega)]
      exact h1
  · show (s.G.set b _).sum + (s.t - n) = t0
    rw [sum_set _ _ _ (by omega)]
    have := I.sm
    omega
  · rw [← I.ids]
    show (s.U.set b (addS n (s.U.getD b u0))).map (·.id) = _
    rw [List.map_set]
    have : (addS n (s.U.getD b u0)).id = (s.U.map (·.id))[b]'(by rw [List.length_map]; exact hbl) := by
      show (s.U.getD b u0).id = _
      rw [List.getElem_map, List.getD_eq_getElem?_getD, List.getElem?_eq_getElem hbl]; rfl
    rw [this]
    exact List.set_getElem_self (by rw [List.length_map]; exact hbl)
theorem runG_end : ∀ (k : Nat) (s : GS), s.t.toNat ≤ k → stepG (runG k s) = none
  | 0, s, h => by
    show stepG s = none
    unfold stepG
    rw [if_neg (by omega)]
  | k + 1, s, h => by
    cases hs : stepG s with
    | none => simp only [runG, hs]
    | some s' =>
      simp only [runG, hs]
      obtain ⟨h1, h2, h3⟩ := step_t hs
      exact runG_end k s' (by omega)
theorem fin_end (s : GS) : stepG (fin s) = none := runG_end _ s (Nat.le_refl _)
theorem bestTo_none {U : List US} {L : List Int} : ∀ i, bestTo U L i = none → ∀ j, j < i → L.getD j 0 ≤ 0
  | 0, _, j, h => absurd h (by omega)
  | i + 1, h, j, hj => by
    unfold bestTo at h
    by_cases hp : 0 < L.getD i 0
    · rw [if_pos hp] at h
      split at h
      · cases h
      · split at h <;> cases h
    · rw [if_neg hp] at h
      by_cases hji : j = i
      · subst hji; omega
      · exact bestTo_none i h j (by omega)

/-- What the wants come to, one by one, and which places they mean. -/
theorem outTo_at (W : List Wn) (U : List US) (G : List Int) : ∀ n k, k < n → (outTo W U G n).getD k (0, 0) = ((W.getD k (0, 0)).1, G.getD (fi U (W.getD k (0, 0)).1) 0)
  | 0, k, h => absurd h (by omega)
  | n + 1, k, h => by
    unfold outTo
    have hl := outTo_len W U G n
    rw [List.getD_eq_getElem?_getD]
    by_cases hk : k < n
    · rw [List.getElem?_append_left (by omega), ← List.getD_eq_getElem?_getD]
      exact outTo_at W U G n k hk
    · obtain rfl : k = n := by omega
      rw [List.getElem?_append_right (by omega), hl, Nat.sub_self]; rfl
theorem fi_inj {U : List US} {x y : Int} (h : fi U x < U.length) (e : fi U x = fi U y) : x = y := by
  have h1 := fi_at h
  have h2 := fi_at (U := U) (x := y) (by omega)
  rw [e] at h1
  omega
/-- The wants are of unlike users, each of whom is there. -/
structure WOk (U : List US) (W : List Wn) (n : Nat) : Prop where
  len : W.length = n
  inn : ∀ j, j < n → fi U (W.getD j (0, 0)).1 < U.length
  dis : ∀ i j, i < n → j < n → (W.getD i (0, 0)).1 = (W.getD j (0, 0)).1 → i = j
  bd : ∀ j, j < n → 0 ≤ (W.getD j (0, 0)).2 ∧ (W.getD j (0, 0)).2 ≤ 1048576
theorem ask_zero {U : List US} {t : Int} {W : List Wn} (h : askE U t W = 0) : (0 ≤ t ∧ t ≤ 65536) ∧ WOk U W W.length := by
  unfold askE at h
  by_cases h1 : t < 0 ∨ 65536 < t
  · rw [if_pos h1] at h; cases h
  rw [if_neg h1] at h
  by_cases h2 : farB W = true
  · rw [if_pos h2] at h; cases h
  rw [if_neg h2] at h
  by_cases h3 : nonB U W = true
  · rw [if_pos h3] at h; cases h
  rw [if_neg h3] at h
  by_cases h4 : dupB W = true
  · rw [if_pos h4] at h; cases h
  unfold farB at h2
  unfold nonB at h3
  unfold dupB at h4
  rw [Bool.not_eq_true, List.any_eq_false] at h2 h3 h4
  refine ⟨by omega, rfl, fun j hj => ?_, fun i j hi hj e => ?_, fun j hj => ?_⟩
  · have := h3 j (List.mem_range.2 hj)
    simp only [decide_eq_true_eq] at this
    unfold fiV at this
    split at this
    · assumption
    · omega
  · have key : ∀ a b, a < b → b < W.length → (W.getD a (0, 0)).1 = (W.getD b (0, 0)).1 → False := fun a b hab hb e => by
      have h5 := h4 b (List.mem_range.2 hb)
      apply h5
      unfold dupAt
      rw [List.any_eq_true]
      exact ⟨a, List.mem_range.2 hab, by rw [e]; simp⟩
    by_cases h6 : i < j
    · exact (key i j h6 hj e).elim
    · by_cases h7 : j < i
      · exact (key j i h7 hi e.symm).elim
      · omega
  · have := h2 j (List.mem_range.2 hj)
    simp only [decide_eq_true_eq] at this
    omega
theorem left_at {U : List US} {W : List Wn} {n : Nat} (h : WOk U W n) : ∀ k, k ≤ n → (∀ j, j < k → (leftTo U W k).getD (fi U (W.getD j (0, 0)).1) 0 = (W.getD j (0, 0)).2) ∧
    (∀ p, (∀ j, j < k → fi U (W.getD j (0, 0)).1 ≠ p) → (leftTo U W k).getD p 0 = 0)
  | 0, _ => ⟨fun j hj => absurd hj (by omega), fun p _ => by
      unfold leftTo
      rw [List.getD_eq_getElem?_getD, List.getElem?_replicate]
      split <;> rfl⟩
  | k + 1, hk => by
    obtain ⟨i1, i2⟩ := left_at h k (by omega)
    have hl := leftTo_len U W k
    have hin := h.inn k (by omega)
    unfold leftTo
    refine ⟨fun j hj => ?_, fun p hp => ?_⟩
    · rw [getD_setI, hl]
      by_cases hjk : j = k
      · subst hjk
        rw [if_pos ⟨rfl, hin⟩]
      · have hne : ¬ fi U (W.getD k (0, 0)).1 = fi U (W.getD j (0, 0)).1 := fun e => by
          have := h.dis k j (by omega) (by omega) (fi_inj hin e)
          omega
        rw [if_neg (fun e => hne e.1)]
        exact i1 j (by omega)
    · rw [getD_setI, if_neg (fun e => hp k (by omega) e.1)]
      exact i2 p (fun j hj => hp j (by omega))
theorem left_bd {U : List US} {W : List Wn} {n : Nat} (h : WOk U W n) (p : Nat) : 0 ≤ (leftTo U W n).getD p 0 ∧ (leftTo U W n).getD p 0 ≤ 1048576 := by
  obtain ⟨i1, i2⟩ := left_at h n (Nat.le_refl _)
  by_cases hp : ∃ j, j < n ∧ fi U (W.getD j (0, 0)).1 = p
  · obtain ⟨j, hj, rfl⟩ := hp
    rw [i1 j hj]
    exact h.bd j hj
  · rw [i2 p (fun j hj e => hp ⟨j, hj, e⟩)]
    omega

/-- The first k wants' places, nought there. -/
def zeroTo (U : List US) (W : List Wn) (G : List Int) : Nat → List Int
  | 0 => G
  | k + 1 => (zeroTo U W G k).set (fi U (W.getD k (0, 0)).1) 0
theorem zeroTo_len (U : List US) (W : List Wn) (G : List Int) : ∀ k, (zeroTo U W G k).length = G.length
  | 0 => rfl
  | k + 1 => by unfold zeroTo; rw [List.length_set]; exact zeroTo_len U W G k
def sumTo (O : List Wn) (k : Nat) : Int := ((O.take k).map (·.2)).sum
theorem sumTo_step {O : List Wn} {k : Nat} (h : k < O.length) : sumTo O (k + 1) = sumTo O k + (O.getD k (0, 0)).2 := by
  unfold sumTo
  rw [List.take_succ_eq_append_getElem h, List.map_append, List.sum_append, List.getD_eq_getElem?_getD, List.getElem?_eq_getElem h]
  simp
theorem zeroTo_at {U : List US} {W : List Wn} {G : List Int} {n : Nat} : ∀ k, k ≤ n → ∀ p, (zeroTo U W G k).getD p 0 = 0 ∨ ((∀ j, j < k → fi U (W.getD j (0, 0)).1 ≠ p) ∧ (zeroTo U W G k).getD p 0 = G.getD p 0)
  | 0, _, p => .inr ⟨fun j hj => absurd hj (by omega), rfl⟩
  | k + 1, hk, p => by
    unfold zeroTo
    rw [getD_setI]
    rcases zeroTo_at (U := U) (W := W) (G := G) (n := n) k (by omega) p with h | ⟨h1, h2⟩
    · left; split
      · rfl
      · exact h
    · by_cases hc : fi U (W.getD k (0, 0)).1 = p
      · left
        split
        · rfl
        · rename_i hn
          rw [h2]
          rw [List.getD_eq_getElem?_getD, List.getElem?_eq_none (by have := zeroTo_len U W G k; omega)]; rfl
      · right
        rw [if_neg (fun e => hc e.1)]
        refine ⟨fun j hj => ?_, h2⟩
        by_cases hjk : j = k
        · subst hjk; exact hc
        · exact h1 j (by omega)
theorem zero_sum {U : List US} {W : List Wn} {G : List Int} {n : Nat} (h : WOk U W n) (hg : G.length = U.length) : ∀ k, k ≤ n → sumTo (outTo W U G n) k + (zeroTo U W G k).sum = G.sum
  | 0, _ => by show (0 : Int) + G.sum = _; omega
  | k + 1, hk => by
    have ih := zero_sum h hg k (by omega)
    have hl := outTo_len W U G n
    have hin := h.inn k (by omega)
    rw [sumTo_step (by omega), outTo_at W U G n k (by omega)]
    unfold zeroTo
    rw [sum_set _ _ _ (by rw [zeroTo_len, hg]; exact hin)]
    show sumTo (outTo W U G n) k + G.getD (fi U (W.getD k (0, 0)).1) 0 + _ = _
    have hz : (zeroTo U W G k).getD (fi U (W.getD k (0, 0)).1) 0 = G.getD (fi U (W.getD k (0, 0)).1) 0 := by
      have key : ∀ i, i ≤ k → (zeroTo U W G i).getD (fi U (W.getD k (0, 0)).1) 0 = G.getD (fi U (W.getD k (0, 0)).1) 0 := by
        intro i
        induction i with
        | zero => intro _; rfl
        | succ i ihi =>
          intro hi
          unfold zeroTo
          rw [getD_setI, if_neg (fun e => by
            have := h.dis i k (by omega) (by omega) (fi_inj (h.inn i (by omega)) e.1)
            omega)]
          exact ihi (by omega)
      exact key k (Nat.le_refl _)
    rw [hz]
    omega
theorem sum_zero : ∀ (L : List Int), (∀ j, L.getD j 0 = 0) → L.sum = 0
  | [], _ => rfl
  | a :: L, h => by
    have h0 : a = 0 := h 0
    have := sum_zero L (fun j => h (j + 1))
    simp [h0, this]
/-- What a Give comes to, as SchedAll asks it. -/
theorem all_law {U : List US} {W : List Wn} {n : Nat} {t : Int} {q : Int} (h : WOk U W n) (ht : 0 ≤ t) {E : GS} (hE : fin ⟨restTo U (leftTo U W n) q U.length, leftTo U W n, List.replicate U.length 0, t⟩ = E) :
    (∀ k, k < n → ((outTo W E.U E.G n).getD k (0, 0)).1 = (W.getD k (0, 0)).1 ∧ 0 ≤ ((outTo W E.U E.G n).getD k (0, 0)).2 ∧ ((outTo W E.U E.G n).getD k (0, 0)).2 ≤ (W.getD k (0, 0)).2) ∧
      sumTo (outTo W E.U E.G n) n ≤ t ∧ ((∀ k, k < n → ((outTo W E.U E.G n).getD k (0, 0)).2 = (W.getD k (0, 0)).2) ∨ sumTo (outTo W E.U E.G n) n = t) := by
  have I : GA U.length (leftTo U W n) t (U.map (·.id)) E := by
    rw [← hE]
    refine fin_inv ga_step ⟨by simp, leftTo_len U W n, restTo_len U _ _ _, fun j => (left_bd h j).1, fun j => ?_, fun j => ?_, ?_, ht, rest_ids U _ _ _ (Nat.le_refl _)⟩
    · rw [List.getD_eq_getElem?_getD, List.getElem?_replicate]; split <;> simp
    · show _ + (List.replicate U.length (0 : Int)).getD j 0 = _
      rw [show (List.replicate U.length (0 : Int)).getD j 0 = 0 by rw [List.getD_eq_getElem?_getD, List.getElem?_replicate]; split <;> simp]
      show (leftTo U W n).getD j 0 + 0 = _
      omega
    · show (List.replicate U.length (0 : Int)).sum + t = t
      rw [sum_zero _ (fun j => by rw [List.getD_eq_getElem?_getD, List.getElem?_replicate]; split <;> simp)]
      omega
  have hend : stepG E = none := by rw [← hE]; exact fin_end _
  have hfi := fi_ids I.ids
  have hW : WOk E.U W n := ⟨h.len, fun j hj => by rw [hfi, I.ul]; exact h.inn j hj, h.dis, h.bd⟩
  obtain ⟨l1, l2⟩ := left_at h n (Nat.le_refl _)
  have hat : ∀ k, k < n → ((outTo W E.U E.G n).getD k (0, 0)).1 = (W.getD k (0, 0)).1 ∧ ((outTo W E.U E.G n).getD k (0, 0)).2 + E.L.getD (fi U (W.getD k (0, 0)).1) 0 = (W.getD k (0, 0)).2 ∧ 0 ≤ ((outTo W E.U E.G n).getD k (0, 0)).2 := fun k hk => by
    rw [outTo_at _ _ _ _ _ hk, hfi]
    have h1 := I.lg (fi U (W.getD k (0, 0)).1)
    rw [l1 k hk] at h1
    exact ⟨rfl, by show E.G.getD _ 0 + _ = _; omega, I.gb _⟩
  have hsum : sumTo (outTo W E.U E.G n) n = E.G.sum := by
    have h1 := zero_sum hW (by rw [I.gl, I.ul]) n (Nat.le_refl _)
    rw [sum_zero (zeroTo E.U W E.G n) (fun p => by
      rcases zeroTo_at (U := E.U) (W := W) (G := E.G) (n := n) n (Nat.le_refl _) p with h2 | ⟨h2, h3⟩
      · exact h2
      · rw [h3]
        have h4 := l2 p (fun j hj => by rw [← hfi]; exact h2 j hj)
        have := I.lg p
        have := I.lb p
        have := I.gb p
        omega)] at h1
    omega
  have hsm := I.sm
  have ht0 := I.t0
  refine ⟨fun k hk => ?_, by omega, ?_⟩
  · obtain ⟨a, b, c⟩ := hat k hk
    have := I.lb (fi U (W.getD k (0, 0)).1)
    exact ⟨a, c, by omega⟩
  · by_cases hz : 0 < E.t
    · left
      unfold stepG at hend
      rw [if_pos hz, Option.map_eq_none_iff] at hend
      intro k hk
      obtain ⟨a, b, c⟩ := hat k hk
      have h1 := bestTo_none _ hend (fi U (W.getD k (0, 0)).1) (by rw [I.ul]; exact h.inn k hk)
      have := I.lb (fi U (W.getD k (0, 0)).1)
      omega
    · right; omega
end Go.Proofs.Ytiifepajnhdfjaa.A
