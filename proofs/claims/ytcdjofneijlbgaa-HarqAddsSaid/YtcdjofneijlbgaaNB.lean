/- Bytes out of points, in plain numbers. -/
import Derived.Test.YtcdjofneijlbgaaN
namespace Go.Proofs.Ytcdjofneijlbgaa.N
set_option linter.unusedVariables false
set_option linter.unusedSimpArgs false

/-- Small enough for whole floats. -/
def Sml (L : List Pt) : Prop := ∀ p ∈ L, p.1.natAbs ≤ 1000000 ∧ p.2.natAbs ≤ 1000000
theorem Four.sml {p : Pt} (h : Four p) : p.1.natAbs ≤ 1000000 ∧ p.2.natAbs ≤ 1000000 := by unfold Four at h; omega
instance (p : Pt) : Decidable (Four p) := by unfold Four; infer_instance
/-- The two bits of a point. -/
def bit2 (p : Pt) : Nat := (if p.1 < 0 then 2 else 0) + (if p.2 < 0 then 1 else 0)
theorem bit2_lt (p : Pt) : bit2 p < 4 := by unfold bit2; split <;> split <;> omega
theorem bit2_pt {v : Nat} (h : v < 4) : bit2 (pt v) = v := by
  have : v = 0 ∨ v = 1 ∨ v = 2 ∨ v = 3 := by omega
  rcases this with rfl | rfl | rfl | rfl <;> decide
/-- What is begun of a byte, ahead of point i; the bytes that are whole by then. -/
def pv (L : List Pt) : Nat → Nat
  | 0 => 0
  | i + 1 => if (i + 1) % 4 = 0 then 0 else 4 * pv L i + bit2 (L.getD i (0, 0))
def po (L : List Pt) : Nat → List Nat
  | 0 => []
  | i + 1 => if (i + 1) % 4 = 0 then po L i ++ [4 * pv L i + bit2 (L.getD i (0, 0))] else po L i
theorem pv_lt (L : List Pt) : ∀ i, pv L i < 4 ^ (i % 4)
  | 0 => by simp [pv]
  | i + 1 => by
    unfold pv
    have h := pv_lt L i
    have hb := bit2_lt (L.getD i (0, 0))
    split
    · exact Nat.lt_of_lt_of_le Nat.zero_lt_one (Nat.one_le_pow _ _ (by omega))
    · have h2 : (i + 1) % 4 = i % 4 + 1 := by omega
      rw [h2, Nat.pow_succ]; omega
theorem pv_64 (L : List Pt) (i : Nat) : pv L i < 64 := by
  have := pv_lt L i
  have h2 : i % 4 = 0 ∨ i % 4 = 1 ∨ i % 4 = 2 ∨ i % 4 = 3 := by omega
  rcases h2 with h | h | h | h <;> rw [h] at this <;> omega
theorem po_len (L : List Pt) : ∀ i, (po L i).length = i / 4
  | 0 => rfl
  | i + 1 => by
    unfold po
    split
    · rw [List.length_append, po_len L i, List.length_singleton]; omega
    · rw [po_len L i]; omega
def okB (L : List Pt) : Bool := decide (L.length % 4 = 0 ∧ ∀ p ∈ L, Four p)
def outB (L : List Pt) : List Nat := if okB L = true then po L L.length else []

theorem sg_four {p : Pt} : (p.1 = (if p.1 < 0 then -1 else 1) ∧ p.2 = (if p.2 < 0 then -1 else 1)) ↔ Four p := by
  unfold Four
  constructor
  · rintro ⟨h1, h2⟩
    constructor
    · split at h1 <;> omega
    · split at h2 <;> omega
  · rintro ⟨h1, h2⟩
    constructor
    · split <;> omega
    · split <;> omega

/-- There and back. -/
theorem po_app (L M : List Pt) : ∀ i, i ≤ L.length → pv (L ++ M) i = pv L i ∧ po (L ++ M) i = po L i
  | 0, _ => ⟨rfl, rfl⟩
  | i + 1, h => by
    have ih := po_app L M i (by omega)
    have hg : (L ++ M).getD i (0, 0) = L.getD i (0, 0) := by
      rw [List.getD_eq_getElem?_getD, List.getD_eq_getElem?_getD, List.getElem?_append_left (by omega)]
    unfold pv po
    rw [ih.1, ih.2, hg]
    exact ⟨rfl, rfl⟩
theorem po_byte (L : List Pt) (k c : Nat) (hL : L.length = 4 * k) (hc : c < 256) (hz : pv L (4 * k) = 0) : pv (L ++ byte4 c) (4 * k + 4) = 0 ∧ po (L ++ byte4 c) (4 * k + 4) = po L (4 * k) ++ [c] := by
  have h0 := po_app L (byte4 c) (4 * k) (by omega)
  have hg : ∀ j, j < 4 → (L ++ byte4 c).getD (4 * k + j) (0, 0) = pt (two c j) := fun j hj => by
    rw [List.getD_eq_getElem?_getD, List.getElem?_append_right (by omega), hL, show 4 * k + j - 4 * k = j by omega, List.getElem?_eq_getElem (by rw [byte4_len]; exact hj)]
    simp [byte4]
  have g0 : (L ++ byte4 c).getD (4 * k) (0, 0) = pt (two c 0) := hg 0 (by omega)
  have g1 := hg 1 (by omega)
  have g2 := hg 2 (by omega)
  have g3 := hg 3 (by omega)
  have b0 := bit2_pt (v := two c 0) (Nat.mod_lt _ (by omega))
  have b1 := bit2_pt (v := two c 1) (Nat.mod_lt _ (by omega))
  have b2 := bit2_pt (v := two c 2) (Nat.mod_lt _ (by omega))
  have b3 := bit2_pt (v := two c 3) (Nat.mod_lt _ (by omega))
  have m1 : ¬ (4 * k + 1) % 4 = 0 := by omega
  have m2 : ¬ (4 * k + 1 + 1) % 4 = 0 := by omega
  have m3 : ¬ (4 * k + 2 + 1) % 4 = 0 := by omega
  have m4 : (4 * k + 3 + 1) % 4 = 0 := by omega
  have s1 : pv (L ++ byte4 c) (4 * k + 1) = two c 0 := by rw [pv, if_neg m1, g0, b0, h0.1, hz]; omega
  have s2 : pv (L ++ byte4 c) (4 * k + 1 + 1) = 4 * two c 0 + two c 1 := by rw [pv, if_neg m2, g1, b1, s1]
  have s3 : pv (L ++ byte4 c) (4 * k + 2 + 1) = 4 * (4 * two c 0 + two c 1) + two c 2 := by rw [pv, if_neg m3, g2, b2, show 4 * k + 2 = 4 * k + 1 + 1 by omega, s2]
  have p1 : po (L ++ byte4 c) (4 * k + 1) = po L (4 * k) := by rw [po, if_neg m1, h0.2]
  have p2 : po (L ++ byte4 c) (4 * k + 1 + 1) = po L (4 * k) := by rw [po, if_neg m2, p1]
  have p3 : po (L ++ byte4 c) (4 * k + 2 + 1) = po L (4 * k) := by rw [po, if_neg m3, show 4 * k + 2 = 4 * k + 1 + 1 by omega, p2]
  have hcc : 4 * (4 * (4 * two c 0 + two c 1) + two c 2) + two c 3 = c := by unfold two; omega
  constructor
  · rw [show 4 * k + 4 = 4 * k + 3 + 1 by omega, pv, if_pos m4]
  · rw [show 4 * k + 4 = 4 * k + 3 + 1 by omega, po, if_pos m4, g3, b3, show 4 * k + 3 = 4 * k + 2 + 1 by omega, s3, p3, hcc]
theorem po_ofL (bs : List Nat) (h : ∀ c ∈ bs, c < 256) : pv (ofL bs) (4 * bs.length) = 0 ∧ po (ofL bs) (4 * bs.length) = bs := by
  have key : ∀ n, n ≤ bs.length → pv (ofL (bs.take n)) (4 * n) = 0 ∧ po (ofL (bs.take n)) (4 * n) = bs.take n := by
    intro n
    induction n with
    | zero => intro _; exact ⟨rfl, rfl⟩
    | succ n ih =>
      intro hn
      have ih := ih (by omega)
      have e0 : bs.take (n + 1) = bs.take n ++ [bs[n]'(by omega)] := List.take_succ_eq_append_getElem (by omega)
      have e : ofL (bs.take n ++ [bs[n]'(by omega)]) = ofL (bs.take n) ++ byte4 (bs[n]'(by omega)) := by
        unfold ofL; rw [List.flatMap_append]; simp only [List.flatMap_cons, List.flatMap_nil, List.append_nil]
      have hlen : (ofL (bs.take n)).length = 4 * n := by rw [ofL_len, List.length_take]; omega
      have := po_byte (ofL (bs.take n)) n (bs[n]'(by omega)) hlen (h _ (List.getElem_mem _)) ih.1
      rw [e0, e, show 4 * (n + 1) = 4 * n + 4 by omega]
      exact ⟨this.1, by rw [this.2, ih.2]⟩
  have := key bs.length (Nat.le_refl _)
  rwa [List.take_length] at this
theorem okB_ofL (bs : List Nat) : okB (ofL bs) = true := decide_eq_true ⟨by rw [ofL_len]; omega, ofL_four bs⟩
theorem outB_ofL (bs : List Nat) (h : ∀ c ∈ bs, c < 256) : outB (ofL bs) = bs := by
  unfold outB
  rw [if_pos (okB_ofL bs), ofL_len]
  exact (po_ofL bs h).2
end Go.Proofs.Ytcdjofneijlbgaa.N
