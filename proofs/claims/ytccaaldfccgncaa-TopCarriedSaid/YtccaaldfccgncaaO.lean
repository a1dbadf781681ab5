/- What comes in, opened: slices of structs. -/
import Derived.Test.YtccaaldfccgncaaK
import Derived.ProofKit
import Derived.Deep.Fields
import Derived.ChangeArms
import Derived.ChangeSlices
namespace Go.Proofs.Ytccaaldfccgncaa.K
open Go.ChangeShapes Go.WideShapes Go.RowKit

/-- A slice that came in, element by element. -/
theorem open_elems {H : Type} {enc : TypeId × Value → H} {P : Program} {w : World} {t e C : Nat} {A : Option Addr} {len cap : Nat} {d : DataW H} {p : List MemPlace}
    (ht : P.underlying t = some (.slice e)) (hC : P.cellsOf e = C) (hpos : 0 < C) (h : DataW.Trod enc P w 0 (fun _ => true) true t (.slice A len cap) d p) :
    len ≤ 9223372036854775807 ∧ ∀ i, i < len → ∃ ad cs y m, A = some ad ∧ ad.block < w.heap.size ∧ cs.length = C ∧ (∀ j, j < C → w.cell? (ad.add (i * C + j)) = cs[j]?) ∧
      DataW.trod enc P w 0 (fun _ => true) true m e cs = some y := by
  obtain ⟨fuel, hf⟩ := h
  rcases DataW.trod_slice ht hf with ⟨hcs, _⟩ | ⟨a, l, c, elems, rest, n, _, hcs, _, _, hl, hm, hel, hE, _, _⟩
  · simp [Value.cells] at hcs
    obtain ⟨rfl, rfl, rfl⟩ := hcs
    exact ⟨by omega, fun i hi => absurd hi (by omega)⟩
  · simp [Value.cells] at hcs
    obtain ⟨rfl, rfl, rfl⟩ := hcs
    refine ⟨by unfold maxLen at hm; omega, fun i hi => ?_⟩
    have h1 := hE i hi
    rw [List.getElem?_eq_getElem (by omega)] at h1
    obtain ⟨cs, hc, hy⟩ := Option.bind_eq_some_iff.1 h1
    rw [hC] at hc
    obtain ⟨_, hlen, hcell⟩ := World.cells?_some hc
    refine ⟨a, cs, _, n, rfl, ?_, hlen, fun j hj => ?_, hy⟩
    · have h0 := hcell 0 hpos
      rw [List.getElem?_eq_getElem (by omega)] at h0
      have := World.block_lt_of_cell? w _ h0
      rwa [block_add, block_add] at this
    · rw [← hcell j hj]
      congr 1
      unfold Addr.add
      by_cases h1 : i * C = 0 <;> by_cases h2 : j = 0 <;> simp [h1, h2, Nat.add_assoc]

/-- A struct of one-cell fields, field by field. -/
theorem open_field {H : Type} {enc : TypeId × Value → H} {P : Program} {w : World} {e m : Nat} {fs : Array Field} {cs : List Value} {y : DataW H × List MemPlace}
    (he : P.underlying e = some (.struct fs)) (hone : Deep.oneCellFields P fs = true) (hC : P.cellsOf e = fs.size) (h : DataW.trod enc P w 0 (fun _ => true) true m e cs = some y) :
    ∀ (j : Nat) (f : Field), fs[j]? = some f → ∃ v z n, cs[j]? = some v ∧ DataW.trod enc P w 0 (fun _ => true) true n f.type [v] = some z := by
  obtain ⟨xs, n, _, _, hlen, hxl, hf⟩ := DataW.trod_struct he h
  intro j f hj
  obtain ⟨ho, hk⟩ := Deep.hone_of hone j f hj
  have hjl : j < fs.size := (Array.getElem?_eq_some_iff.1 hj).1
  have hjc : j < cs.length := by omega
  have h1 := hf j f hj
  rw [ho, hk, List.drop_eq_getElem_cons hjc] at h1
  rw [List.getElem?_eq_getElem (l := xs) (by omega)] at h1
  exact ⟨cs[j], _, n, List.getElem?_eq_getElem hjc, h1⟩

/-- As the walk spells the cells of a struct in a slice. -/
theorem add_spell (a : Addr) (m j : Nat) (hj : j ≠ 0) : a.add (m + j) = ⟨(a.add m).block, (a.add m).off + j, none⟩ := by
  unfold Addr.add
  by_cases h1 : m = 0 <;> simp [h1, hj, Nat.add_assoc]

/-- From 'for each i below n there is one' to one list. -/
theorem list_of {α : Type} {n : Nat} {p : Nat → α → Prop} (h : ∀ i, i < n → ∃ x, p i x) : ∃ l : List α, l.length = n ∧ ∀ i x, l[i]? = some x → p i x := by
  induction n with
  | zero => exact ⟨[], rfl, by simp⟩
  | succ n ih =>
    obtain ⟨l, hl, hp⟩ := ih (fun i hi => h i (by omega))
    obtain ⟨x, hx⟩ := h n (by omega)
    refine ⟨l ++ [x], by simp [hl], fun i y hy => ?_⟩
    by_cases hi : i < l.length
    · rw [List.getElem?_append_left hi] at hy
      exact hp i y hy
    · rw [List.getElem?_append_right (by omega)] at hy
      have : i - l.length = 0 := by
        have := (List.getElem?_eq_some_iff.1 hy).1
        simp at this; omega
      rw [this] at hy
      simp at hy
      have hin : i = n := by omega
      subst hin; subst hy
      exact hx

theorem open_int_cell {H : Type} {enc : TypeId × Value → H} {P : Program} {w : World} {e m : Nat} {k : IntKind} {v : Value} {y : DataW H × List MemPlace}
    (he : P.underlying e = some (.int k)) (h : DataW.trod enc P w 0 (fun _ => true) true m e [v] = some y) : ∃ n, v = .int k n ∧ (Lit.int k n).wf = true := by
  obtain ⟨n, h1, _, h2⟩ := DataW.trod_int he h
  simp at h1
  exact ⟨n, h1, h2⟩
theorem open_bool_cell {H : Type} {enc : TypeId × Value → H} {P : Program} {w : World} {e m : Nat} {v : Value} {y : DataW H × List MemPlace}
    (he : P.underlying e = some .bool) (h : DataW.trod enc P w 0 (fun _ => true) true m e [v] = some y) : ∃ b, v = .bool b := by
  obtain ⟨b, h1, _⟩ := DataW.trod_bool he h
  simp at h1
  exact ⟨b, h1⟩
theorem open_Ints {H : Type} {enc : TypeId × Value → H} {P : Program} {w : World} {t e : TypeId} {k : IntKind} {A : Option Addr} {len cap : Nat} {d : DataW H} {p : List MemPlace}
    (ht : P.underlying t = some (.slice e)) (he : P.underlying e = some (.int k)) (hc : P.cellsOf e = 1) (h : DataW.Trod enc P w 0 (fun _ => true) true t (.slice A len cap) d p) : ∃ zs, Ints w k A len zs := by
  obtain ⟨fuel, hf⟩ := h
  rcases open_ints ht he hc hf with ⟨hcs, _⟩ | ⟨x, l, c, zs, hcs, _, hl, hm, hz, _, hcell, hwz⟩
  · simp [Value.cells] at hcs
    obtain ⟨rfl, rfl, rfl⟩ := hcs
    exact ⟨[], rfl, by omega, by simp, fun h => absurd h (by omega)⟩
  · simp [Value.cells] at hcs
    obtain ⟨rfl, rfl, rfl⟩ := hcs
    have hz' : zs.length = cap := by simpa using hz
    refine ⟨zs.take len, by simp; omega, by unfold maxLen at hm; omega, fun z hzm => hwz z (List.mem_of_mem_take hzm), fun h0 => ⟨x, rfl, ?_, fun j hj => ?_⟩⟩
    · have := World.block_lt_of_cell? w _ (hcell 0 (by omega))
      rwa [block_add] at this
    · rw [hcell j (by omega), List.getD_eq_getElem?_getD, List.getD_eq_getElem?_getD, List.getElem?_take_of_lt hj]
end Go.Proofs.Ytccaaldfccgncaa.K
