/- Spoilt bytes, in plain numbers: where they differ, and that they come back. -/
import Derived.Test.YtbhkhabkkghapaaWG
namespace Go.Proofs.Ytbhkhabkkghapaa.A
open Go.RowKit Go.Proofs.Ytbhkhabkkghapaa.K Go.Proofs.Ytbhkhabkkghapaa.N Go.Proofs.Ytbhkhabkkghapaa.F
set_option linter.unusedVariables false
set_option linter.unusedSimpArgs false

theorem pt_bit2 {p : Pt} (h : Four p) : pt (bit2 p) = p := by
  obtain ⟨x, y⟩ := p
  obtain ⟨h1, h2⟩ := h
  simp only at h1 h2
  rcases h1 with rfl | rfl <;> rcases h2 with rfl | rfl <;> rfl
theorem byte4_of (a b c d : Nat) (ha : a < 4) (hb : b < 4) (hc : c < 4) (hd : d < 4) : byte4 (4 * (4 * (4 * a + b) + c) + d) = [pt a, pt b, pt c, pt d] := by
  have e0 : two (4 * (4 * (4 * a + b) + c) + d) 0 = a := by unfold two; omega
  have e1 : two (4 * (4 * (4 * a + b) + c) + d) 1 = b := by unfold two; omega
  have e2 : two (4 * (4 * (4 * a + b) + c) + d) 2 = c := by unfold two; omega
  have e3 : two (4 * (4 * (4 * a + b) + c) + d) 3 = d := by unfold two; omega
  show [pt (two _ 0), pt (two _ 1), pt (two _ 2), pt (two _ 3)] = _
  rw [e0, e1, e2, e3]
theorem take4 {L : List Pt} {n : Nat} (h : 4 * n + 4 ≤ L.length) : L.take (4 * n + 4) = L.take (4 * n) ++ [L.getD (4 * n) (0, 0), L.getD (4 * n + 1) (0, 0), L.getD (4 * n + 2) (0, 0), L.getD (4 * n + 3) (0, 0)] := by
  have t : ∀ m, m < L.length → L.take (m + 1) = L.take m ++ [L.getD m (0, 0)] := fun m hm => by
    rw [List.take_succ_eq_append_getElem hm, List.getD_eq_getElem?_getD, List.getElem?_eq_getElem hm]; rfl
  rw [show 4 * n + 4 = 4 * n + 3 + 1 by omega, t _ (by omega), show 4 * n + 3 = 4 * n + 2 + 1 by omega, t _ (by omega), show 4 * n + 2 = 4 * n + 1 + 1 by omega, t _ (by omega), t _ (by omega)]
  simp
theorem ofL_po {L : List Pt} (hL : ∀ p ∈ L, Four p) : ∀ n, 4 * n ≤ L.length → pv L (4 * n) = 0 ∧ ofL (po L (4 * n)) = L.take (4 * n)
  | 0, _ => ⟨rfl, rfl⟩
  | n + 1, h => by
    obtain ⟨i1, i2⟩ := ofL_po hL n (by omega)
    have m1 : ¬ (4 * n + 1) % 4 = 0 := by omega
    have m2 : ¬ (4 * n + 1 + 1) % 4 = 0 := by omega
    have m3 : ¬ (4 * n + 2 + 1) % 4 = 0 := by omega
    have m4 : (4 * n + 3 + 1) % 4 = 0 := by omega
    have s1 : pv L (4 * n + 1) = bit2 (L.getD (4 * n) (0, 0)) := by rw [pv, if_neg m1, i1]; omega
    have s2 : pv L (4 * n + 2) = 4 * bit2 (L.getD (4 * n) (0, 0)) + bit2 (L.getD (4 * n + 1) (0, 0)) := by rw [show 4 * n + 2 = 4 * n + 1 + 1 by omega, pv, if_neg m2, s1]
    have s3 : pv L (4 * n + 3) = 4 * (4 * bit2 (L.getD (4 * n) (0, 0)) + bit2 (L.getD (4 * n + 1) (0, 0))) + bit2 (L.getD (4 * n + 2) (0, 0)) := by rw [show 4 * n + 3 = 4 * n + 2 + 1 by omega, pv, if_neg m3, s2]
    have p1 : po L (4 * n + 1) = po L (4 * n) := by rw [po, if_neg m1]
    have p2 : po L (4 * n + 1 + 1) = po L (4 * n) := by rw [po, if_neg m2, p1]
    have p3 : po L (4 * n + 2 + 1) = po L (4 * n) := by rw [po, if_neg m3, show 4 * n + 2 = 4 * n + 1 + 1 by omega, p2]
    have f : ∀ j, j < 4 → pt (bit2 (L.getD (4 * n + j) (0, 0))) = L.getD (4 * n + j) (0, 0) := fun j hj => pt_bit2 (hL _ (by
      rw [List.getD_eq_getElem?_getD, List.getElem?_eq_getElem (by omega)]; exact List.getElem_mem _))
    refine ⟨by rw [show 4 * (n + 1) = 4 * n + 3 + 1 by omega, pv, if_pos m4], ?_⟩
    rw [show 4 * (n + 1) = 4 * n + 3 + 1 by omega, po, if_pos m4, s3, show 4 * n + 3 = 4 * n + 2 + 1 by omega, p3]
    have e : ∀ l : List Nat, ∀ c, ofL (l ++ [c]) = ofL l ++ byte4 c := fun l c => by unfold ofL; rw [List.flatMap_append]; simp
    rw [e, i2, byte4_of _ _ _ _ (bit2_lt _) (bit2_lt _) (bit2_lt _) (bit2_lt _), show 4 * n + 2 + 1 + 1 = 4 * n + 4 by omega, take4 (by omega)]
    have f0 := f 0 (by omega)
    rw [Nat.add_zero] at f0
    rw [f0, f 1 (by omega), f 2 (by omega), f 3 (by omega)]
theorem ofL_outB {L : List Pt} (h : okB L = true) : ofL (outB L) = L := by
  have h' := of_decide_eq_true h
  unfold outB
  rw [if_pos h]
  obtain ⟨n, hn⟩ : ∃ n, L.length = 4 * n := ⟨L.length / 4, by omega⟩
  rw [hn, (ofL_po h'.2 n (by omega)).2, ← hn, List.take_length]
theorem ofL_spoil {bs : List Nat} {a : Nat} {k : Int} (ha : a < 4 * bs.length) : ofL (spoilB bs a k) = spPts bs a k := ofL_outB (spPts_ok bs a k ha)
theorem ofL_at : ∀ {bs : List Nat} {i j : Nat}, i < bs.length → j < 4 → (ofL bs).getD (4 * i + j) (0, 0) = pt (two (bs.getD i 0) j)
  | [], i, j, h, _ => by simp at h
  | c :: l, i, j, h, hj => by
    have e : ofL (c :: l) = byte4 c ++ ofL l := rfl
    rw [e]
    cases i with
    | zero =>
      have : j = 0 ∨ j = 1 ∨ j = 2 ∨ j = 3 := by omega
      rcases this with rfl | rfl | rfl | rfl <;> rfl
    | succ i =>
      have ih := ofL_at (bs := l) (i := i) (j := j) (by simp at h; omega) hj
      rw [List.getD_eq_getElem?_getD, List.getElem?_append_right (by rw [byte4_len]; omega), byte4_len, show 4 * (i + 1) + j - 4 = 4 * i + j by omega, ← List.getD_eq_getElem?_getD, ih]
      simp
theorem byte_eq {c d : Nat} (hc : c < 256) (hd : d < 256) (h : ∀ j, j < 4 → pt (two c j) = pt (two d j)) : c = d := by
  have t : ∀ j, j < 4 → two c j = two d j := fun j hj => by
    rw [← bit2_pt (show two c j < 4 from Nat.mod_lt _ (by omega)), h j hj, bit2_pt (show two d j < 4 from Nat.mod_lt _ (by omega))]
  have t0 := t 0 (by omega)
  have t1 := t 1 (by omega)
  have t2 := t 2 (by omega)
  have t3 := t 3 (by omega)
  unfold two at t0 t1 t2 t3
  omega
theorem spPts_at {bs : List Nat} {a : Nat} {k : Int} (m : Nat) (ha : a < 4 * bs.length) : (spPts bs a k).getD m (0, 0) = if m = a then turnp (qn k) ((ofL bs).getD a (0, 0)) else (ofL bs).getD m (0, 0) := by
  have hl : a < (ofL bs).length := by rw [ofL_len]; exact ha
  unfold spPts
  rw [List.getD_eq_getElem?_getD, List.getElem?_set]
  by_cases h : m = a
  · subst h; rw [if_pos rfl, if_pos rfl, if_pos hl]; rfl
  · rw [if_neg (fun e => h e.symm), if_neg h, List.getD_eq_getElem?_getD]
theorem turn_same {p : Pt} (h : Four p) {n : Nat} (hn : n < 4) (e : turnp n p = p) : n = 0 := by
  obtain ⟨x, y⟩ := p
  obtain ⟨h1, h2⟩ := h
  simp only at h1 h2
  have : n = 0 ∨ n = 1 ∨ n = 2 ∨ n = 3 := by omega
  rcases this with rfl | rfl | rfl | rfl
  · rfl
  all_goals
    exfalso
    simp only [turnp, qt, Prod.mk.injEq] at e
    omega
theorem getD_lt {l : List Nat} (h : ∀ c ∈ l, c < 256) (i : Nat) : l.getD i 0 < 256 := by
  by_cases hi : i < l.length
  · rw [List.getD_eq_getElem?_getD, List.getElem?_eq_getElem hi]; exact h _ (List.getElem_mem _)
  · rw [List.getD_eq_getElem?_getD, List.getElem?_eq_none (by omega)]; simp
theorem spoil_at {bs : List Nat} {a : Nat} {k : Int} (h256 : ∀ c ∈ bs, c < 256) (ha : a < 4 * bs.length) (h0 : 0 ≤ k) (h4 : k < 4) {i : Nat} (hi : i < bs.length) : ((spoilB bs a k).getD i 0 ≠ bs.getD i 0) ↔ (k ≠ 0 ∧ i = a / 4) := by
  have hlen := spoilB_len bs a k ha
  have at_ : ∀ j, j < 4 → pt (two ((spoilB bs a k).getD i 0) j) = (spPts bs a k).getD (4 * i + j) (0, 0) := fun j hj => by
    rw [← ofL_at (by rw [hlen]; exact hi) hj, ofL_spoil ha]
  constructor
  · intro hne
    have hia : i = a / 4 := by
      apply Classical.byContradiction
      intro hn
      exact hne (byte_eq (getD_lt (outB_lt _) i) (getD_lt h256 i) fun j hj => by
        rw [at_ j hj, spPts_at _ ha, if_neg (by omega), ofL_at hi hj])
    refine ⟨fun hk => hne ?_, hia⟩
    subst hk
    exact byte_eq (getD_lt (outB_lt _) i) (getD_lt h256 i) fun j hj => by
      rw [at_ j hj, spPts_at _ ha, ← ofL_at hi hj]
      split
      · next h => rw [turn_zero 0 (by omega), h]
      · rfl
  · rintro ⟨hk, rfl⟩ he
    have := at_ (a % 4) (by omega)
    rw [he, ← ofL_at hi (by omega), show 4 * (a / 4) + a % 4 = a by omega, spPts_at _ ha, if_pos rfl] at this
    have := turn_same (ofL_four bs _ (mem_getD (by rw [ofL_len]; exact ha))) (qn_lt k) this.symm
    unfold qn at this
    omega
theorem spoil_back {bs : List Nat} {a : Nat} {k m : Int} (h256 : ∀ c ∈ bs, c < 256) (ha : a < 4 * bs.length) (h : (k + m) % 4 = 0) : spoilB (spoilB bs a k) a m = bs := by
  have e : spPts (spoilB bs a k) a m = ofL bs := by
    have e1 : spPts (spoilB bs a k) a m = (ofL (spoilB bs a k)).set a (turnp (qn m) ((ofL (spoilB bs a k)).getD a (0, 0))) := rfl
    rw [e1, ofL_spoil ha, spPts_at a ha, if_pos rfl, turn_two, turn_zero _ h]
    unfold spPts
    rw [List.set_set, List.getD_eq_getElem?_getD, List.getElem?_eq_getElem (by rw [ofL_len]; exact ha)]
    exact List.set_getElem_self _
  show outB (spPts (spoilB bs a k) a m) = bs
  rw [e, outB_ofL bs h256]
end Go.Proofs.Ytbhkhabkkghapaa.A
