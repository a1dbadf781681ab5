/- What comes in: calls. -/
import Derived.Test.YtiifepajnhdfjaaU
namespace Go.Proofs.Ytiifepajnhdfjaa.A
open Go.RowKit Go.Proofs.Ytiifepajnhdfjaa.K
set_option linter.unusedVariables false
set_option linter.unusedSimpArgs false

/-- A call: its kind, a user, a number, wants. -/
structure SOp where
  kd : Int
  id : Int
  n : Int
  A : Option Addr
  l : Nat
  c : Nat
  W : List Wn
def IsOp (w : World) (A : Option Addr) (i : Nat) (o : SOp) : Prop := ∃ ad, A = some ad ∧ ad.block < w.heap.size ∧ w.cell? (ad.add (i * 4)) = some (.int .i64 o.kd) ∧ w.cell? (ad.add (i * 4 + 1)) = some (.int .i64 o.id) ∧
  w.cell? (ad.add (i * 4 + 2)) = some (.int .i64 o.n) ∧ w.cell? (ad.add (i * 4 + 3)) = some (.slice o.A o.l o.c) ∧ RdW w o.A o.W ∧ o.W.length = o.l ∧ o.l ≤ o.c
def IsOps (w : World) (A : Option Addr) (len : Nat) (ops : List SOp) : Prop := ops.length = len ∧ len ≤ 9223372036854775807 ∧ ∀ i o, ops[i]? = some o → IsOp w A i o
theorem open_wants {H : Type} {enc : TypeId × Value → H} {w : World} {m : Nat} {v : Value} {y : DataW H × List MemPlace} (h : DataW.trod enc Try.prog w 0 (fun _ => true) true m 28 [v] = some y) :
    ∃ A l c W, v = .slice A l c ∧ RdW w A W ∧ W.length = l ∧ l ≤ c := by
  obtain ⟨A, l, c, rfl, hlc⟩ : ∃ A l c, v = .slice A l c ∧ l ≤ c := by
    rcases DataW.trod_slice Try.underlying28 h with ⟨hcs, _⟩ | ⟨a, l, c, elems, rest, n, _, hcs, _, _, hl, _⟩
    · simp at hcs
      exact ⟨none, 0, 0, hcs, Nat.le_refl _⟩
    · simp at hcs
      exact ⟨_, _, _, hcs, hl⟩
  obtain ⟨hm, he⟩ := open_elems (C := 2) (A := A) (len := l) (cap := c) Try.underlying28 (by kernel_rfl) (by omega) ⟨m, h⟩
  obtain ⟨W, hl, hp⟩ := list_of (α := Wn) (n := l) (p := fun i o => ∃ ad, A = some ad ∧ ad.block < w.heap.size ∧ w.cell? (ad.add (i * 2)) = some (.int .i64 o.1) ∧ w.cell? (ad.add (i * 2 + 1)) = some (.int .i64 o.2)) (fun i hi => by
      obtain ⟨ad, cs, y, m, e, hb, hlen, hc, ht⟩ := he i hi
      have hf := open_field Try.underlying35 (by kernel_rfl) (by kernel_rfl) ht
      obtain ⟨v0, z0, n0, c0, t0⟩ := hf 0 _ rfl
      obtain ⟨v1, z1, n1, c1, t1⟩ := hf 1 _ rfl
      obtain ⟨k, rfl, _⟩ := open_int_cell Try.underlying3 t0
      obtain ⟨ii, rfl, _⟩ := open_int_cell Try.underlying3 t1
      exact ⟨(k, ii), ad, e, hb, (hc 0 (by omega)).trans c0, (hc 1 (by omega)).trans c1⟩)
  refine ⟨A, l, c, W, rfl, fun j hj => ?_, hl, hlc⟩
  obtain ⟨ad, e, hb, c0, c1⟩ := hp j _ (List.getElem?_eq_getElem hj)
  rw [add_spell _ _ _ (by omega)] at c1
  rw [List.getD_eq_getElem?_getD, List.getElem?_eq_getElem hj]
  exact ⟨ad, e, hb, c0, c1⟩
theorem open_ops {H : Type} {enc : TypeId × Value → H} {w : World} {A : Option Addr} {len cap : Nat} {d : DataW H} {p : List MemPlace}
    (h : DataW.Trod enc Try.prog w 0 (fun _ => true) true 23 (.slice A len cap) d p) : ∃ ops, IsOps w A len ops := by
  obtain ⟨hm, he⟩ := open_elems (C := 4) Try.underlying23 (by kernel_rfl) (by omega) h
  obtain ⟨l, hl, hp⟩ := list_of (α := SOp) (n := len) (p := fun i o => IsOp w A i o) (fun i hi => by
      obtain ⟨ad, cs, y, m, e, hb, hlen, hc, ht⟩ := he i hi
      have hf := open_field Try.underlying30 (by kernel_rfl) (by kernel_rfl) ht
      obtain ⟨v0, z0, n0, c0, t0⟩ := hf 0 _ rfl
      obtain ⟨v1, z1, n1, c1, t1⟩ := hf 1 _ rfl
      obtain ⟨v2, z2, n2, c2, t2⟩ := hf 2 _ rfl
      obtain ⟨v3, z3, n3, c3, t3⟩ := hf 3 _ rfl
      obtain ⟨k, rfl, _⟩ := open_int_cell Try.underlying3 t0
      obtain ⟨ii, rfl, _⟩ := open_int_cell Try.underlying3 t1
      obtain ⟨nn, rfl, _⟩ := open_int_cell Try.underlying3 t2
      obtain ⟨A', l', c', W, rfl, r1, r2, r3⟩ := open_wants t3
      exact ⟨⟨k, ii, nn, A', l', c', W⟩, ad, e, hb, (hc 0 (by omega)).trans c0, (hc 1 (by omega)).trans c1, (hc 2 (by omega)).trans c2, (hc 3 (by omega)).trans c3, r1, r2, r3⟩)
  exact ⟨l, hl, hm, hp⟩
theorem open_ints {H : Type} {enc : TypeId × Value → H} {w : World} {A : Option Addr} {len cap : Nat} {d : DataW H} {p : List MemPlace}
    (h : DataW.Trod enc Try.prog w 0 (fun _ => true) true 22 (.slice A len cap) d p) : ∃ xs, Ints w .i64 A len xs :=
  open_Ints Try.underlying22 Try.underlying3 (by kernel_rfl) h
/-- The call, as a round meets it. -/
theorem IsOps.at_ {w wr : World} {A : Option Addr} {len i : Nat} {ops : List SOp} (h : IsOps w A len ops) (F : Frm No w wr) (hi : i < len) : ∃ (ad : Addr) (o : SOp), A = some ad ∧ RdW w o.A o.W ∧ o.W.length = o.l ∧ o.l ≤ o.c ∧
    wr.cell? (ad.add (i * 4)) = some (.int .i64 o.kd) ∧ wr.cell? ⟨(ad.add (i * 4)).block, (ad.add (i * 4)).off + 1, none⟩ = some (.int .i64 o.id) ∧ wr.cell? ⟨(ad.add (i * 4)).block, (ad.add (i * 4)).off + 2, none⟩ = some (.int .i64 o.n) ∧ wr.cell? ⟨(ad.add (i * 4)).block, (ad.add (i * 4)).off + 3, none⟩ = some (.slice o.A o.l o.c) := by
  obtain ⟨ad, e, hb, c0, c1, c2, c3, r1, r2, r3⟩ := h.2.2 i _ (List.getElem?_eq_getElem (by rw [h.1]; exact hi))
  have tr : ∀ i v, w.cell? (ad.add i) = some v → wr.cell? (ad.add i) = some v := fun i v h => by
    rw [← h]; exact World.cell?_of_block (F.block _ (by rw [block_add]; exact hb) (fun h => h))
  have o1 := tr _ _ c1
  have o2 := tr _ _ c2
  have o3 := tr _ _ c3
  rw [add_spell _ _ _ (by omega)] at o1 o2 o3
  exact ⟨ad, _, e, r1, r2, r3, tr _ _ c0, o1, o2, o3⟩

theorem sumTo_bd {O : List Wn} {n : Nat} (hl : O.length = n) (h : ∀ k, k < n → 0 ≤ (O.getD k (0, 0)).2 ∧ (O.getD k (0, 0)).2 ≤ 1048576) : ∀ k, k ≤ n → 0 ≤ sumTo O k ∧ sumTo O k ≤ 1048576 * (k : Int)
  | 0, _ => by constructor <;> (show (_ : Int) ≤ _; simp [sumTo])
  | k + 1, hk => by
    have ih := sumTo_bd hl h k (by omega)
    rw [sumTo_step (by omega)]
    have := h k (by omega)
    omega
def fullB (O W : List Wn) (k : Nat) : Bool := (List.range k).all fun j => (O.getD j (0, 0)).2 == (W.getD j (0, 0)).2
theorem fullB_step (O W : List Wn) (k : Nat) : fullB O W (k + 1) = (fullB O W k && ((O.getD k (0, 0)).2 == (W.getD k (0, 0)).2)) := by
  unfold fullB
  rw [List.range_succ, List.all_append]
  simp
theorem fullB_all {O W : List Wn} {n : Nat} (h : ∀ k, k < n → (O.getD k (0, 0)).2 = (W.getD k (0, 0)).2) : fullB O W n = true := by
  unfold fullB
  rw [List.all_eq_true]
  intro k hk
  rw [h k (List.mem_range.1 hk)]; simp
end Go.Proofs.Ytiifepajnhdfjaa.A
