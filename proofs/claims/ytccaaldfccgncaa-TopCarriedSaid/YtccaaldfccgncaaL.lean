/- Words on rows that the call itself made. -/
import Derived.Test.YtccaaldfccgncaaK
import Derived.Deep.AppendLies
namespace Go.Proofs.Ytccaaldfccgncaa.K
open Go.RowKit
set_option linter.unusedVariables false
set_option linter.unusedSimpArgs false

/-- An owned row whose own block is as it was is owned still. -/
theorem own_keep {w w' : World} {base e size : Nat} {v : Value} {n : Nat} {xs : List Value} (h : w.ownsRow base e size v n xs) (hk : ∀ k, v.ownBlock = some k → w'.heap[k]? = w.heap[k]?) : w'.ownsRow base e size v n xs := by
  obtain ⟨h1, h2⟩ := h
  refine ⟨h1, ?_⟩
  rcases h2 with h2 | ⟨g, cap, cur, hv, hg, hh, r⟩
  · exact .inl h2
  · exact .inr ⟨g, cap, cur, hv, hg, by rw [hk g (by rw [hv]; rfl)]; exact hh, r⟩
/-- The block of an owned row. -/
theorem own_blk {w : World} {base e size : Nat} {v : Value} {n : Nat} {xs : List Value} (h : w.ownsRow base e size v n xs) {k : Nat} (hk : v.ownBlock = some k) : base ≤ k ∧ ∃ cs, Blk w k cs e := by
  rcases h.2 with ⟨rfl, _⟩ | ⟨g, cap, cur, rfl, hg, hh, _⟩
  · simp [Value.ownBlock] at hk
  · have : g = k := by simpa [Value.ownBlock] using hk
    subst this
    exact ⟨hg, cur, hh⟩
/-- It stays owned where only blocks of other types were turned. -/
theorem own_frm {w w' : World} {S : Nat → Prop} {base e size : Nat} {v : Value} {n : Nat} {xs : List Value} (h : w.ownsRow base e size v n xs) (hf : Frm S w w') (hS : ∀ k cs, Blk w k cs e → ¬ S k) : w'.ownsRow base e size v n xs :=
  own_keep h fun k hk => by
    obtain ⟨_, cs, hb⟩ := own_blk h hk
    exact hf.block k hb.lt (hS k cs hb)
/-- A store into a block of another type. -/
theorem own_set {w : World} {base e size : Nat} {v : Value} {n : Nat} {xs : List Value} (h : w.ownsRow base e size v n xs) {g : Nat} {cs : Array Value} {t : TypeId} (hb : Blk w g cs t) (ht : t ≠ e) (i : Nat) (u : Value) : (w.setCell ⟨g, i, none⟩ u).ownsRow base e size v n xs :=
  own_keep h fun k hk => by
    obtain ⟨_, cs', hb'⟩ := own_blk h hk
    exact heap_setCell_other w _ k u (hb'.ne hb (Ne.symm ht))
/-- A frame out of what an append leaves. -/
theorem Frm.grown {S : Nat → Prop} {a w w' : World} {row : Option Nat} (h : Frm S a w) (hg : w.grownBy w' row) (hr : ∀ k, row = some k → S k ∨ a.heap.size ≤ k) : Frm S a w' :=
  ⟨hg.os.trans h.os, hg.tape.trans h.tape, hg.output.trans h.output, Nat.le_trans h.size hg.size, fun k hk hs => (hg.block k (Nat.lt_of_lt_of_le hk h.size) (fun e => (hr k e.symm).elim hs (fun h => by omega))).trans (h.block k hk hs)⟩
theorem grown_after {w w3 : World} {o : Obj} {row : Option Nat} (h : (w.alloc o).drew.grownBy w3 row) : w.grownBy w3 row :=
  World.grownBy.trans (World.grownBy_alloc w o row) ⟨h.os, h.tape, h.output, h.size, h.block⟩
theorem Blk.grown {w w' : World} {row : Option Nat} {g : Nat} {cs : Array Value} {t : TypeId} (h : Blk w g cs t) (hg : w.grownBy w' row) (hr : row ≠ some g) : Blk w' g cs t :=
  (hg.block g h.lt (fun e => hr e.symm)).trans h
/-- The cells of an owned row of whole numbers. -/
theorem own_cells {w : World} {base e : Nat} {v : Value} {k : IntKind} {L : List Int} (h : w.ownsRow base e 1 v L.length (L.map (Value.int k))) :
    ∃ A c, v = .slice A L.length c ∧ L.length ≤ 9223372036854775807 ∧ ∀ j, j < L.length → ∃ ad, A = some ad ∧ w.cell? (ad.add j) = some (.int k (L.getD j 0)) := by
  rcases h.2 with ⟨rfl, h0⟩ | ⟨g, cap, cur, rfl, hg, hh, h1, h2, h3⟩
  · have hL : L = [] := by simpa using h0
    subst hL
    exact ⟨none, 0, rfl, by simp, fun j hj => absurd hj (by simp)⟩
  · refine ⟨_, cap, rfl, by unfold maxLen at h2; omega, fun j hj => ⟨_, rfl, ?_⟩⟩
    refine h.cells (g := g) rfl j _ ?_
    simp [List.getElem?_eq_getElem hj, List.getD_eq_getElem?_getD]
end Go.Proofs.Ytccaaldfccgncaa.K
