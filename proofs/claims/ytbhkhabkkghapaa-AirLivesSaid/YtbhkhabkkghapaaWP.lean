/- A store into a row of one's own, several cells an element; the document's Spoil. -/
import Derived.Test.YtbhkhabkkghapaaWO
namespace Go.Proofs.Ytbhkhabkkghapaa.A
open Go.RowKit Go.Proofs.Ytbhkhabkkghapaa.K Go.Proofs.Ytbhkhabkkghapaa.N Go.Proofs.Ytbhkhabkkghapaa.F
set_option linter.unusedVariables false
set_option linter.unusedSimpArgs false

theorem own_putq {w : World} {B e n sz c : Nat} {A : Option Addr} {xs : List Value} (h : w.ownsRow B e sz (.slice A n c) n xs) {j : Nat} (hj : j < n * sz) (u : Value) :
    ∃ ad, A = some ad ∧ (∃ cs, Blk w ad.block cs e) ∧ w.cell? (ad.add j) = xs[j]? ∧ w.frozen? (ad.add j) = false ∧ (w.setCell (ad.add j) u).ownsRow B e sz (.slice A n c) n (xs.set j u) := by
  obtain ⟨hl, h2⟩ := h
  rcases h2 with ⟨h0, h1⟩ | ⟨gk, cap, cur, hv, hg, hh, h3, h4, h5, h6⟩
  · subst h1; omega
  · simp only [Value.slice.injEq] at hv
    obtain ⟨rfl, -, rfl⟩ := hv
    have hb : Blk w gk cur e := hh
    have ea : (⟨gk, 0, none⟩ : Addr).add j = ⟨gk, j, none⟩ := by unfold Addr.add; by_cases h0 : j = 0 <;> simp [h0]
    refine ⟨_, rfl, ⟨cur, hb⟩, ?_, by rw [ea]; exact hb.free j, ?_⟩
    · rw [ea, hb.cell, ← h6, List.getElem?_take_of_lt (by omega), Array.getElem?_toList]
    · rw [ea]
      refine ⟨by rw [List.length_set]; exact hl, .inr ⟨gk, c, cur.setIfInBounds j u, rfl, hg, hb.set j u, h3, h4, by rw [Array.size_setIfInBounds]; exact h5, ?_⟩⟩
      rw [Array.toList_setIfInBounds, List.take_set, h6]
theorem px_set : ∀ (L : List Pt) (j : Nat) (p : Pt), j < L.length → (L.set j p).flatMap px = ((L.flatMap px).set (j * 2) (.float .f64 (FI p.1))).set (j * 2 + 1) (.float .f64 (FI p.2))
  | [], j, p, h => absurd h (by simp)
  | q :: L, 0, p, _ => rfl
  | q :: L, j + 1, p, h => by
    have ih := px_set L j p (by simpa using h)
    show px q ++ (L.set j p).flatMap px = _
    rw [ih]
    show _ = ((px q ++ L.flatMap px).set ((j + 1) * 2) _).set ((j + 1) * 2 + 1) _
    have hp : (px q).length = 2 := rfl
    rw [List.set_append_right _ _ (by rw [hp]; omega), List.set_append_right _ _ (by rw [hp]; omega), hp, show (j + 1) * 2 - 2 = j * 2 by omega, show (j + 1) * 2 + 1 - 2 = j * 2 + 1 by omega]
theorem RowP.put {w : World} {B n c : Nat} {A : Option Addr} {L : List Pt} (h : RowP w B (.slice A n c) L) (hn : L.length = n) {j : Nat} (hj : j < n) (p : Pt) :
    ∃ ad, A = some ad ∧ (∃ cs, Blk w ad.block cs 62) ∧ B ≤ ad.block ∧ w.cell? (ad.add (j * 2)) = some (.float .f64 (FI (L.getD j (0, 0)).1)) ∧ w.cell? (ad.add (j * 2 + 1)) = some (.float .f64 (FI (L.getD j (0, 0)).2)) ∧ w.frozen? (ad.add (j * 2)) = false ∧ w.frozen? (ad.add (j * 2 + 1)) = false ∧
    RowP ((w.setCell (ad.add (j * 2)) (.float .f64 (FI p.1))).setCell (ad.add (j * 2 + 1)) (.float .f64 (FI p.2))) B (.slice A n c) (L.set j p) := by
  unfold RowP at h
  rw [hn] at h
  obtain ⟨ad, rfl, hb, hc, hz, ho⟩ := own_putq h (j := j * 2) (by omega) (.float .f64 (FI p.1))
  obtain ⟨ad', e', hb', hc', hz', _⟩ := own_putq h (j := j * 2 + 1) (by omega) (.float .f64 (FI p.1))
  injection e' with e'
  subst e'
  obtain ⟨ad', e', _, _, _, ho2⟩ := own_putq ho (j := j * 2 + 1) (by omega) (.float .f64 (FI p.2))
  injection e' with e'
  subst e'
  have hB := (own_blk h rfl).1
  obtain ⟨x1, x2⟩ := px_at L j (by omega)
  refine ⟨ad, rfl, hb, hB, hc.trans x1, hc'.trans x2, hz, hz', ?_⟩
  unfold RowP
  rw [List.length_set, hn, px_set L j p (by omega)]
  exact ho2
end Go.Proofs.Ytbhkhabkkghapaa.A
