/- Spoil. -/
import Derived.Test.YtbhkhabkkghapaaWF
import Derived.Test.YtbhkhabkkghapaaWD
namespace Go.Proofs.Ytbhkhabkkghapaa.A
open Go.RowKit Go.Proofs.Ytbhkhabkkghapaa.K Go.Proofs.Ytbhkhabkkghapaa.N Go.Proofs.Ytbhkhabkkghapaa.F
set_option linter.unusedVariables false
set_option linter.unusedSimpArgs false

theorem po_lt (L : List Pt) : ∀ i, ∀ c ∈ po L i, c < 256
  | 0, c, h => by simp [po] at h
  | i + 1, c, h => by
    unfold po at h
    split at h
    · rcases List.mem_append.1 h with h | h
      · exact po_lt L i c h
      · have h1 := pv_64 L i
        have h2 := bit2_lt (L.getD i (0, 0))
        simp at h
        simp at h2
        omega
    · exact po_lt L i c h
theorem outB_lt (L : List Pt) : ∀ c ∈ outB L, c < 256 := fun c h => by
  unfold outB at h
  split at h
  · exact po_lt _ _ _ h
  · simp at h
/-- A block of which a point is turned. -/
def spPts (bs : List Nat) (at_ : Nat) (k : Int) : List Pt := (ofL bs).set at_ (turnp (qn k) ((ofL bs).getD at_ (0, 0)))
def spoilB (bs : List Nat) (at_ : Nat) (k : Int) : List Nat := outB (spPts bs at_ k)
theorem spPts_len (bs : List Nat) (a : Nat) (k : Int) : (spPts bs a k).length = 4 * bs.length := by unfold spPts; rw [List.length_set, ofL_len]
theorem spPts_four (bs : List Nat) (a : Nat) (k : Int) (ha : a < 4 * bs.length) : ∀ p ∈ spPts bs a k, Four p := fun p hp => by
  unfold spPts at hp
  rcases List.mem_or_eq_of_mem_set hp with h | rfl
  · exact ofL_four bs p h
  · refine turn_four _ (ofL_four bs _ ?_)
    exact mem_getD (by rw [ofL_len]; exact ha)
theorem spPts_ok (bs : List Nat) (a : Nat) (k : Int) (ha : a < 4 * bs.length) : okB (spPts bs a k) = true := decide_eq_true ⟨by rw [spPts_len]; omega, spPts_four bs a k ha⟩
theorem spoilB_len (bs : List Nat) (a : Nat) (k : Int) (ha : a < 4 * bs.length) : (spoilB bs a k).length = bs.length := by
  unfold spoilB outB
  rw [if_pos (spPts_ok bs a k ha), po_len, spPts_len]; omega
theorem Bin.ints {w : World} {A : Option Addr} {L : List Nat} {n : Nat} (h : Bin w A L) (hn : L.length = n) (hn9 : n ≤ 100000) (h256 : ∀ c ∈ L, c < 256) : Ints w .u8 A n (L.map fun (c : Nat) => (c : Int)) := by
  obtain ⟨h1, h2⟩ := h
  refine ⟨by rw [List.length_map, hn], by omega, fun z hz => ?_, fun h0 => ?_⟩
  · obtain ⟨c, hc, rfl⟩ := List.mem_map.1 hz
    have := h256 c hc
    simp only [Lit.wf, Bool.and_eq_true, decide_eq_true_eq]
    exact ⟨by show (0 : Int) ≤ _; omega, by show _ ≤ (255 : Int); omega⟩
  · obtain ⟨ad, e, hb, hc⟩ := h2 (by omega)
    refine ⟨ad, e, hb, fun j hj => hc j _ ?_⟩
    rw [List.getD_eq_getElem?_getD, List.getElem?_map, List.getElem?_map, List.getElem?_eq_getElem (by omega)]; rfl
theorem toNat_map (L : List Nat) : (L.map fun (c : Nat) => (c : Int)).map Int.toNat = L := by
  rw [List.map_map]; exact List.map_id'' (fun c => Int.toNat_natCast c) L
theorem of_bin (w : World) (A : Option Addr) (n c : Nat) (L : List Nat) (h : Bin w A L) (hn : L.length = n) (hn9 : n ≤ 100000) (h256 : ∀ c ∈ L, c < 256) : Calls Try.prog 27 #[.slice A n c] w (HandC w (ofL L)) := by
  have := of_ok w A n c _ (h.ints hn hn9 h256) hn9
  rwa [toNat_map] at this
/-- A store into a row of one's own, one cell an element. -/
theorem own_put1 {w : World} {B e n c : Nat} {A : Option Addr} {xs : List Value} (h : w.ownsRow B e 1 (.slice A n c) n xs) {j : Nat} (hj : j < n) (u : Value) :
    ∃ ad, A = some ad ∧ (∃ cs, Blk w ad.block cs e) ∧ w.cell? (ad.add j) = xs[j]? ∧ w.frozen? (ad.add j) = false ∧ (w.setCell (ad.add j) u).ownsRow B e 1 (.slice A n c) n (xs.set j u) := by
  obtain ⟨hl, h2⟩ := h
  rcases h2 with ⟨h0, h1⟩ | ⟨gk, cap, cur, hv, hg, hh, h3, h4, h5, h6⟩
  · subst h1; omega
  · simp only [Value.slice.injEq] at hv
    obtain ⟨rfl, -, rfl⟩ := hv
    have hb : Blk w gk cur e := hh
    have ea : (⟨gk, 0, none⟩ : Addr).add j = ⟨gk, j, none⟩ := by unfold Addr.add; by_cases h0 : j = 0 <;> simp [h0]
    refine ⟨_, rfl, ⟨cur, hb⟩, ?_, by rw [ea]; exact hb.free j, ?_⟩
    · rw [ea, hb.cell, ← h6, List.getElem?_take_of_lt (by omega), Array.getElem?_toList]
    · rw [ea]
      refine ⟨by rw [List.length_set]; exact hl, .inr ⟨gk, c, cur.setIfInBounds j u, rfl, hg, hb.set j u, h3, h4, by rw [Array.size_setIfInBounds]; exact h5, ?_⟩⟩
      rw [Array.toList_setIfInBounds, List.take_set, h6]
theorem RowC.put {w : World} {B n c : Nat} {A : Option Addr} {L : List Pt} (h : RowC w B (.slice A n c) L) (hn : L.length = n) {j : Nat} (hj : j < n) (p : Pt) :
    ∃ ad, A = some ad ∧ (∃ cs, Blk w ad.block cs 53) ∧ w.cell? (ad.add j) = some (cx (L.getD j (0, 0))) ∧ w.frozen? (ad.add j) = false ∧ RowC (w.setCell (ad.add j) (cx p)) B (.slice A n c) (L.set j p) ∧ B ≤ ad.block := by
  unfold RowC at h
  rw [hn] at h
  obtain ⟨ad, rfl, hb, hc, hz, ho⟩ := own_put1 h hj (cx p)
  have hB := (own_blk h rfl).1
  refine ⟨ad, rfl, hb, ?_, hz, ?_, hB⟩
  · rw [hc, List.getElem?_map, List.getElem?_eq_getElem (by omega), List.getD_eq_getElem?_getD, List.getElem?_eq_getElem (by omega)]; rfl
  · unfold RowC
    rw [List.length_set, hn, List.map_set]
    exact ho
theorem RowS.put {w : World} {B n c : Nat} {A : Option Addr} {k : Option Nat} {S : List Bl} {L : List (List Nat)} (h : RowS w B (.slice A n c) k S L) (hn : L.length = n) {j : Nat} (hj : j < n) (b : Bl) (l : List Nat) (hb : IsB w b l) :
    ∃ ad, A = some ad ∧ (∃ cs, Blk w ad.block cs 22) ∧ w.cell? (ad.add j) = some (S.getD j bl0).val ∧ w.frozen? (ad.add j) = false ∧ RowS (w.setCell (ad.add j) b.val) B (.slice A n c) k (S.set j b) (L.set j l) ∧ Frm (fun x => k = some x) w (w.setCell (ad.add j) b.val) := by
  obtain ⟨h1, h2, h3, h4⟩ := h
  rw [hn] at h1
  obtain ⟨ad, rfl, ⟨cs, hbk⟩, hc, hz, ho⟩ := own_put1 h1 hj b.val
  have hkk : k = some ad.block := by rw [← h2]; rfl
  have G : Frm (fun x => k = some x) w (w.setCell (ad.add j) b.val) := (Frm.refl (fun x => k = some x) w).set (.inl (by rw [block_add]; exact hkk)) _
  have h5 : ∀ x cs, Blk w x cs 5 → ¬ (k = some x) := fun x cs' hx e => by
    rw [hkk] at e
    injection e with e
    subst e
    exact Blk.ne hx hbk (by decide) rfl
  refine ⟨ad, rfl, ⟨cs, hbk⟩, ?_, hz, ⟨?_, h2, by rw [List.length_set, List.length_set]; exact h3, fun q hq => ?_⟩, G⟩
  · rw [hc, List.getElem?_map, List.getElem?_eq_getElem (by omega), List.getD_eq_getElem?_getD, List.getElem?_eq_getElem (by omega)]; rfl
  · rw [List.length_set, hn, List.map_set]
    exact ho
  · rw [List.length_set] at hq
    rw [List.getD_eq_getElem?_getD, List.getD_eq_getElem?_getD, List.getElem?_set, List.getElem?_set]
    by_cases hjq : j = q
    · subst hjq
      rw [if_pos rfl, if_pos rfl, if_pos (by omega), if_pos (by omega)]
      exact hb.frm G h5
    · rw [if_neg hjq, if_neg hjq, ← List.getD_eq_getElem?_getD, ← List.getD_eq_getElem?_getD]
      exact (h4 q hq).frm G h5
end Go.Proofs.Ytbhkhabkkghapaa.A
