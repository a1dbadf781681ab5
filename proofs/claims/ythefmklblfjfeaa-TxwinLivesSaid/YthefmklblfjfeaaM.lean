/- A map from int to bool that the call has made, as a function; what a look-up, a store and a delete do. -/
import Derived.Test.YthefmklblfjfeaaF
import Derived.Maps.OwnSet
namespace Go.Proofs.Ythefmklblfjfeaa.A
open Go.RowKit Go.Proofs.Ythefmklblfjfeaa.K Go.Proofs.Ythefmklblfjfeaa.N Go.Maps
set_option linter.unusedVariables false
set_option linter.unusedSimpArgs false

theorem keyI : Keyed Try.prog 3 := int_keyed Try.underlying3
theorem elem_bool_inv {H : Type} {v : Value} {z : DataW H × List MemPlace} (h : plainElem Try.prog 4 v = some z) : ∃ x, v = .bool x ∧ z = (.lit (.bool x), []) := by
  unfold plainElem at h
  rw [Try.underlying4] at h
  cases v <;> simp at h
  subst h
  exact ⟨_, rfl, rfl⟩

/-- Block b is a map of at most n keys: f says what it holds. -/
def MapB (w : World) (b n : Nat) (f : Int → Bool) : Prop :=
  ∃ D : DataW Unit, w.ownsMap Try.prog 3 (plainElem Try.prog 4) b n D ∧ ∀ q, (Lit.int .i64 q).wf = true → D.atKey (.int .i64 q) (.lit (.bool false)) = .lit (.bool (f q))

theorem MapB.made (w : World) : MapB (w.alloc (.map #[] 0)) w.heap.size 0 (fun _ => false) :=
  ⟨.map [], World.ownsMap_made _ _ _ _, fun _ _ => rfl⟩
theorem MapB.mono {w : World} {b n n' : Nat} {f : Int → Bool} (h : MapB w b n f) (hn : n ≤ n') : MapB w b n' f := by
  obtain ⟨D, h1, h2⟩ := h
  exact ⟨D, h1.mono hn, h2⟩
theorem MapB.alloc {w : World} {b n : Nat} {f : Int → Bool} (h : MapB w b n f) (o : Obj) : MapB (w.alloc o) b n f := by
  obtain ⟨D, h1, h2⟩ := h
  exact ⟨D, h1.alloc o, h2⟩
theorem MapB.drew {w : World} {b n : Nat} {f : Int → Bool} (h : MapB w b n f) : MapB w.drew b n f := h
theorem MapB.lt {w : World} {b n : Nat} {f : Int → Bool} (h : MapB w b n f) : b < w.heap.size := by
  obtain ⟨D, h1, h2⟩ := h
  exact h1.lt
theorem MapB.congr {w : World} {b n : Nat} {f f' : Int → Bool} (h : MapB w b n f) (he : ∀ q, f q = f' q) : MapB w b n f' := by
  obtain ⟨D, h1, h2⟩ := h
  exact ⟨D, h1, fun q hq => by rw [h2 q hq, he]⟩
theorem MapB.set {w : World} {b n : Nat} {f : Int → Bool} (h : MapB w b n f) {a : Addr} (ha : b ≠ a.block) (v : Value) : MapB (w.setCell a v) b n f := by
  obtain ⟨D, h1, h2⟩ := h
  exact ⟨D, h1.setCell ha v, h2⟩
theorem MapB.frm {w w' : World} {S : Nat → Prop} {b n : Nat} {f : Int → Bool} (h : MapB w b n f) (hf : Frm S w w') (hs : ¬ S b) : MapB w' b n f := by
  have hlt := h.lt
  obtain ⟨D, ⟨es, clock, hb, r⟩, h2⟩ := h
  exact ⟨D, ⟨es, clock, (hf.block b hlt hs).trans hb, r⟩, h2⟩
/-- A map's block is no block of cells. -/
theorem MapB.ne {w : World} {b n : Nat} {f : Int → Bool} (h : MapB w b n f) {g : Nat} {cs : Array Value} {t : TypeId} (hb : Blk w g cs t) : b ≠ g := by
  rintro rfl
  obtain ⟨D, ⟨es, clock, hm, r⟩, h2⟩ := h
  unfold Blk at hb
  rw [hm] at hb
  cases hb

theorem MapB.look {w : World} {b n : Nat} {f : Int → Bool} (h : MapB w b n f) (q : Int) (hq : (Lit.int .i64 q).wf = true) :
    (Instr.lookup 51 (.map (some b)) (.int .i64 q) false).run Try.prog w = .ok (.bool (f q)) w := by
  obtain ⟨D, h1, h2⟩ := h
  obtain ⟨v, ps, hrun, hv⟩ := h1.lookup keyI Try.underlying51 (z := .bool false) (show (zeroValue 4).run Try.prog w = .ok (.bool false) w by kernel_rfl) (plainElem_bool Try.underlying4 false) (keyOf_int_mk Try.underlying3 hq)
  obtain ⟨x, rfl, hz⟩ := elem_bool_inv hv
  rw [h2 q hq] at hz
  have : x = f q := by
    have := congrArg Prod.fst hz
    simp only [DataW.lit.injEq, Lit.bool.injEq] at this
    exact this.symm
  rw [hrun, this]

theorem turned_frm {w w' : World} {b : Nat} (h : w.mapTurned w' b) : Frm (fun x => x = b) w w' := by
  have hg := h.grown
  exact ⟨hg.os, hg.tape, hg.output, hg.size, fun i hi hs => hg.block i hi (fun e => hs (Option.some.inj e))⟩

theorem MapB.put {w : World} {b n : Nat} {f : Int → Bool} (h : MapB w b n f) (hn : n < maxLen) (q : Int) (hq : (Lit.int .i64 q).wf = true) (x : Bool) :
    ∃ w', (Instr.mapUpdate 51 (.map (some b)) (.int .i64 q) (.bool x)).run Try.prog w = .ok () w' ∧ MapB w' b (n + 1) (fun y => if y = q then x else f y) ∧ Frm (fun x => x = b) w w' := by
  obtain ⟨D, h1, h2⟩ := h
  obtain ⟨w', hrun, o1, o2⟩ := h1.store keyI Try.underlying51 hn (keyOf_int_mk Try.underlying3 hq) (plainElem_bool Try.underlying4 x)
  refine ⟨w', hrun, ⟨_, o1, fun y hy => ?_⟩, turned_frm o2⟩
  by_cases e : y = q
  · subst e; simp only [if_pos rfl, if_true]; exact atKey_put_same h1.isMap (by trivial) _ _
  · simp only [if_neg e]; rw [atKey_put_other (by simpa using e)]; exact h2 y hy

theorem MapB.del {w : World} {b n : Nat} {f : Int → Bool} (h : MapB w b n f) (q : Int) (hq : (Lit.int .i64 q).wf = true) (ty : TypeId) :
    ∃ w', (Builtin.delete_ #[51, 3] ty #[.map (some b), .int .i64 q]).run Try.prog w = .ok (.tuple #[]) w' ∧ MapB w' b n (fun y => if y = q then false else f y) ∧ Frm (fun x => x = b) w w' := by
  obtain ⟨D, h1, h2⟩ := h
  obtain ⟨w', hrun, o1, o2⟩ := h1.drop keyI Try.underlying51 (keyOf_int_mk Try.underlying3 hq) ty
  refine ⟨w', hrun, ⟨_, o1, fun y hy => ?_⟩, turned_frm o2⟩
  by_cases e : y = q
  · subst e; simp only [if_pos rfl, if_true]; exact atKey_del_same _
  · simp only [if_neg e]; rw [atKey_del_other (by simpa using e)]; exact h2 y hy
theorem neq_some (w : World) (mb : Nat) : Sem.run Try.prog (binOp BinOp.neq 51 (Value.map (some mb)) (Value.map none)) w = .ok (.bool true) w := by kernel_rfl
theorem neq_none (w : World) : Sem.run Try.prog (binOp BinOp.neq 51 (Value.map none) (Value.map none)) w = .ok (.bool false) w := by kernel_rfl
end Go.Proofs.Ythefmklblfjfeaa.A
