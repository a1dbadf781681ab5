/- Words that the texts of this claim share: blocks of cells, what a call leaves as it was. -/
import Derived.WalkKit
import Derived.WalkSpells
import Derived.KernelRfl
import Derived.Lib.Hide
import Derived.BigQuiet
import Derived.Deep.LoopGhost
namespace Go.Proofs.Ytccaaldfccgncaa.K
open Go.RowKit
set_option linter.unusedVariables false
set_option linter.unusedSimpArgs false

/-- A block of cells, none of them frozen. -/
def Blk (w : World) (g : Nat) (cs : Array Value) (t : TypeId) : Prop := w.heap[g]? = some (.cells cs t (0, 0))

theorem Blk.cell {w : World} {g : Nat} {cs : Array Value} {t : TypeId} (h : Blk w g cs t) (i : Nat) : w.cell? ⟨g, i, none⟩ = cs[i]? := by
  unfold Blk at h; simp [World.cell?, h]
theorem Blk.free {w : World} {g : Nat} {cs : Array Value} {t : TypeId} (h : Blk w g cs t) (i : Nat) : w.frozen? ⟨g, i, none⟩ = false := by
  unfold Blk at h; simp [World.frozen?, h]
theorem Blk.set {w : World} {g : Nat} {cs : Array Value} {t : TypeId} (h : Blk w g cs t) (i : Nat) (v : Value) : Blk (w.setCell ⟨g, i, none⟩ v) g (cs.setIfInBounds i v) t :=
  heap_setCell_same w g i cs t v h
theorem Blk.other {w : World} {g : Nat} {cs : Array Value} {t : TypeId} (h : Blk w g cs t) {a : Addr} (hne : g ≠ a.block) (v : Value) : Blk (w.setCell a v) g cs t :=
  (heap_setCell_other w a g v hne).trans h
theorem Blk.lt {w : World} {g : Nat} {cs : Array Value} {t : TypeId} (h : Blk w g cs t) : g < w.heap.size := lt_of_block h
theorem Blk.alloc {w : World} {g : Nat} {cs : Array Value} {t : TypeId} (h : Blk w g cs t) (o : Obj) : Blk (w.alloc o) g cs t :=
  (Below.heap_alloc w o g h.lt).trans h
theorem Blk.new (w : World) (cs : Array Value) (t : TypeId) : Blk (w.alloc (.cells cs t)) w.heap.size cs t := heap_alloc_new w _
theorem Blk.drew {w : World} {g : Nat} {cs : Array Value} {t : TypeId} (h : Blk w g cs t) : Blk w.drew g cs t := h
theorem Blk.drewN {w : World} {g : Nat} {cs : Array Value} {t : TypeId} (h : Blk w g cs t) (n : Nat) : Blk (w.drewN n) g cs t := h
/-- Two blocks of unlike types are two. -/
theorem Blk.ne {w : World} {g g' : Nat} {cs cs' : Array Value} {t t' : TypeId} (h : Blk w g cs t) (h' : Blk w g' cs' t') (ht : t ≠ t') : g ≠ g' := by
  rintro rfl
  unfold Blk at h h'
  rw [h] at h'
  injection h' with h'
  injection h' with _ h'
  exact ht h'

/-- Nothing that was there has turned: 'Frm No'. -/
abbrev No : Nat → Prop := fun _ => False

/-- What was there, but for the blocks of S, is as it was. -/
structure Frm (S : Nat → Prop) (w w' : World) : Prop where
  os : w'.os = w.os
  tape : w'.tape = w.tape
  output : w'.output = w.output
  size : w.heap.size ≤ w'.heap.size
  block : ∀ k, k < w.heap.size → ¬ S k → w'.heap[k]? = w.heap[k]?

theorem Frm.refl (S : Nat → Prop) (w : World) : Frm S w w := ⟨rfl, rfl, rfl, Nat.le_refl _, fun _ _ _ => rfl⟩
theorem Frm.trans {S : Nat → Prop} {a b c : World} (h : Frm S a b) (k : Frm S b c) : Frm S a c :=
  ⟨k.os.trans h.os, k.tape.trans h.tape, k.output.trans h.output, Nat.le_trans h.size k.size, fun i hi hs => (k.block i (Nat.lt_of_lt_of_le hi h.size) hs).trans (h.block i hi hs)⟩
/-- The second step may also turn what was not there ahead of the first. -/
theorem Frm.then {S S' : Nat → Prop} {a b c : World} (h : Frm S a b) (k : Frm S' b c) (hS : ∀ i, S' i → S i ∨ a.heap.size ≤ i) : Frm S a c :=
  ⟨k.os.trans h.os, k.tape.trans h.tape, k.output.trans h.output, Nat.le_trans h.size k.size, fun i hi hs => (k.block i (Nat.lt_of_lt_of_le hi h.size) (fun hn => (hS i hn).elim hs (fun h => by omega))).trans (h.block i hi hs)⟩
theorem Frm.thenN {S : Nat → Prop} {a b c : World} (h : Frm S a b) (k : Frm (fun _ => False) b c) : Frm S a c := h.then k fun i hi => hi.elim
theorem Frm.thenG {S : Nat → Prop} {g : Nat} {a b c : World} (h : Frm S a b) (k : Frm (fun x => x = g) b c) (hg : S g ∨ a.heap.size ≤ g) : Frm S a c := h.then k fun i hi => by subst hi; exact hg
theorem Frm.mono {S S' : Nat → Prop} {w w' : World} (h : Frm S w w') (hS : ∀ i, S i → S' i) : Frm S' w w' :=
  ⟨h.os, h.tape, h.output, h.size, fun i hi hs => h.block i hi (fun hn => hs (hS i hn))⟩
theorem Frm.alloc {S : Nat → Prop} {a w : World} (h : Frm S a w) (o : Obj) : Frm S a (w.alloc o) :=
  ⟨h.os, h.tape, h.output, by have := h.size; simp; omega, fun k hk hs => (Below.heap_alloc w o k (Nat.lt_of_lt_of_le hk h.size)).trans (h.block k hk hs)⟩
theorem Frm.drew {S : Nat → Prop} {a w : World} (h : Frm S a w) : Frm S a w.drew := ⟨h.os, h.tape, h.output, h.size, h.block⟩
theorem Frm.drewN {S : Nat → Prop} {a w : World} (h : Frm S a w) (n : Nat) : Frm S a (w.drewN n) := ⟨h.os, h.tape, h.output, h.size, h.block⟩
theorem Frm.set {S : Nat → Prop} {a w : World} (h : Frm S a w) {p : Addr} (hp : S p.block ∨ a.heap.size ≤ p.block) (v : Value) : Frm S a (w.setCell p v) :=
  ⟨h.os, h.tape, h.output, by have := h.size; simp; omega, fun k hk hs => (heap_setCell_other w p k v (by rintro rfl; rcases hp with hp | hp; exact hs hp; omega)).trans (h.block k hk hs)⟩
theorem Frm.blk {S : Nat → Prop} {w w' : World} (h : Frm S w w') {g : Nat} {cs : Array Value} {t : TypeId} (hb : Blk w g cs t) (hs : ¬ S g) : Blk w' g cs t :=
  (h.block g hb.lt hs).trans hb
theorem Frm.below {S : Nat → Prop} {w0 w w' : World} (h : Frm S w w') (hb : Below w0.heap.size w0 w) (hS : ∀ i, S i → w0.heap.size ≤ i) : Below w0.heap.size w0 w' :=
  hb.trans ⟨h.os, h.tape, h.output, h.size, fun k hk => h.block k (Nat.lt_of_lt_of_le hk hb.size) (fun hn => by have := hS k hn; omega)⟩
theorem Frm.self {g : Nat} {a w : World} (h : Frm (fun x => x = g) a w) (i : Nat) (v : Value) : Frm (fun x => x = g) a (w.setCell ⟨g, i, none⟩ v) := h.set (.inl rfl) v
theorem Frm.fresh {S : Nat → Prop} {a w : World} (h : Frm S a w) {k : Nat} (hk : a.heap.size ≤ k) (i : Nat) (v : Value) : Frm S a (w.setCell ⟨k, i, none⟩ v) := h.set (.inr hk) v


/-- A slice of whole numbers that is read. -/
def Ints (w : World) (k : IntKind) (A : Option Addr) (n : Nat) (zs : List Int) : Prop :=
  zs.length = n ∧ n ≤ 9223372036854775807 ∧ (∀ z ∈ zs, (Lit.int k z).wf = true) ∧ (0 < n → ∃ ad, A = some ad ∧ ad.block < w.heap.size ∧ ∀ j, j < n → w.cell? (ad.add j) = some (.int k (zs.getD j 0)))

theorem block_add (a : Addr) (n : Nat) : (a.add n).block = a.block := by unfold Addr.add; split <;> rfl

theorem Ints.at_ {w : World} {k : IntKind} {A : Option Addr} {n : Nat} {zs : List Int} (h : Ints w k A n zs) {j : Nat} (hj : j < n) :
    ∃ ad, A = some ad ∧ ad.block < w.heap.size ∧ w.cell? (ad.add j) = some (.int k (zs.getD j 0)) ∧ (Lit.int k (zs.getD j 0)).wf = true := by
  obtain ⟨h1, _, h2, h3⟩ := h
  obtain ⟨ad, e, hb, hc⟩ := h3 (by omega)
  refine ⟨ad, e, hb, hc j hj, h2 _ ?_⟩
  rw [List.getD_eq_getElem?_getD, List.getElem?_eq_getElem (by omega)]
  exact List.getElem_mem _

end Go.Proofs.Ytccaaldfccgncaa.K
