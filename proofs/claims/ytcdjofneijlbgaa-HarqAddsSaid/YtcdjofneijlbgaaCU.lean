/- HarqAdds: sums of noise as rows; what the box holds. -/
import Derived.Test.YtcdjofneijlbgaaCR
import Derived.Test.YtcdjofneijlbgaaCL
import Derived.Laws.MakeOwn
namespace Go.Proofs.Ytcdjofneijlbgaa.A
open Go.RowKit Go.Proofs.Ytcdjofneijlbgaa.K Go.Proofs.Ytcdjofneijlbgaa.F Go.Proofs.Ytcdjofneijlbgaa.N
set_option linter.unusedVariables false
set_option linter.unusedSimpArgs false

/-- The sums of the first i lists, and of one more up to place k. -/
def sumL (f : Pt → Int) (NS : List (List Int)) (K i k : Nat) : List Int := (List.range K).map fun q => f (nzS NS q (if q < k then i + 1 else i))
theorem sumL_len (f : Pt → Int) (NS : List (List Int)) (K i k : Nat) : (sumL f NS K i k).length = K := by unfold sumL; rw [List.length_map, List.length_range]
theorem sumL_at (f : Pt → Int) (NS : List (List Int)) (K i k : Nat) {q : Nat} (h : q < K) : (sumL f NS K i k).getD q 0 = f (nzS NS q (if q < k then i + 1 else i)) := by
  unfold sumL
  rw [List.getD_eq_getElem?_getD, List.getElem?_map, List.getElem?_range h]; rfl
theorem sumL_set (f : Pt → Int) (NS : List (List Int)) (K i k : Nat) (x : Int) (hx : f (nzS NS k (i + 1)) = x) : (sumL f NS K i k).set k x = sumL f NS K i (k + 1) := by
  apply List.ext_getElem?
  intro q
  rw [List.getElem?_set, sumL_len]
  unfold sumL
  rw [List.getElem?_map, List.getElem?_map]
  by_cases hq : q < K
  · rw [List.getElem?_range hq]
    by_cases e : k = q
    · subst e
      rw [if_pos rfl, if_pos hq, Option.map_some, if_pos (by omega), hx]
    · rw [if_neg e, Option.map_some, Option.map_some]
      by_cases h1 : q < k
      · rw [if_pos h1, if_pos (by omega)]
      · rw [if_neg h1, if_neg (by omega)]
  · rw [List.getElem?_eq_none (by rw [List.length_range]; omega)]
    split
    · rw [if_neg (by omega)]; rfl
    · rfl
theorem sumL_zero (f : Pt → Int) (h0 : f (0, 0) = 0) (NS : List (List Int)) (K : Nat) : List.replicate K (0 : Int) = sumL f NS K 0 0 := by
  apply List.ext_getElem?
  intro q
  unfold sumL
  rw [List.getElem?_map, List.getElem?_replicate]
  by_cases hq : q < K
  · rw [if_pos hq, List.getElem?_range hq, Option.map_some, if_neg (by omega)]
    show _ = some (f (0, 0))
    rw [h0]
  · rw [if_neg hq, List.getElem?_eq_none (by rw [List.length_range]; omega)]; rfl
theorem nzS_late (NS : List (List Int)) (q i : Nat) (h : ¬ 2 * q + 1 < (NS.getD i []).length) : nzS NS q (i + 1) = nzS NS q i := by
  show ((nzS NS q i).1 + (nzA (NS.getD i []) q).1, (nzS NS q i).2 + (nzA (NS.getD i []) q).2) = _
  unfold nzA
  rw [if_neg h]
  simp
theorem sumL_end (f : Pt → Int) (NS : List (List Int)) (K i k : Nat) (h : ∀ q, k ≤ q → q < K → ¬ 2 * q + 1 < (NS.getD i []).length) : sumL f NS K i k = sumL f NS K (i + 1) 0 := by
  apply List.ext_getElem?
  intro q
  unfold sumL
  rw [List.getElem?_map, List.getElem?_map]
  by_cases hq : q < K
  · rw [List.getElem?_range hq, Option.map_some, Option.map_some, if_neg (show ¬ q < 0 by omega)]
    by_cases h1 : q < k
    · rw [if_pos h1]
    · rw [if_neg h1, nzS_late NS q i (h q (by omega) hq)]
  · rw [List.getElem?_eq_none (by rw [List.length_range]; omega)]; rfl
theorem nzS_step (NS : List (List Int)) (q i : Nat) (h : 2 * q + 1 < (NS.getD i []).length) : nzS NS q (i + 1) = ((nzS NS q i).1 + (NS.getD i []).getD (2 * q) 0, (nzS NS q i).2 + (NS.getD i []).getD (2 * q + 1) 0) := by
  show ((nzS NS q i).1 + (nzA (NS.getD i []) q).1, (nzS NS q i).2 + (nzA (NS.getD i []) q).2) = _
  unfold nzA
  rw [if_pos h]
theorem nzA_lim {ns : List Int} (h : ∀ z ∈ ns, (Lit.int .i8 z).wf = true) (q : Nat) : ((nzA ns q).1.natAbs ≤ 128) ∧ (nzA ns q).2.natAbs ≤ 128 := by
  unfold nzA
  split
  · have h1 := i8_getD h (2 * q)
    have h2 := i8_getD h (2 * q + 1)
    exact ⟨by simp only; omega, by simp only; omega⟩
  · exact ⟨by decide, by decide⟩
theorem nzS_lim {NS : List (List Int)} (q : Nat) : ∀ i, (∀ j, j < i → ∀ z ∈ NS.getD j [], (Lit.int .i8 z).wf = true) → (nzS NS q i).1.natAbs ≤ 128 * i ∧ (nzS NS q i).2.natAbs ≤ 128 * i
  | 0, _ => ⟨by show (0 : Int).natAbs ≤ _; decide, by show (0 : Int).natAbs ≤ _; decide⟩
  | i + 1, h => by
    have ih := nzS_lim (NS := NS) q i (fun j hj => h j (by omega))
    have h1 := nzA_lim (h i (by omega)) q
    exact ⟨by show ((nzS NS q i).1 + (nzA (NS.getD i []) q).1).natAbs ≤ _; omega, by show ((nzS NS q i).2 + (nzA (NS.getD i []) q).2).natAbs ≤ _; omega⟩
theorem lim_of {k : Nat} {L : List Pt} (h : ∀ q, q < L.length → (L.getD q (0, 0)).1.natAbs ≤ k ∧ (L.getD q (0, 0)).2.natAbs ≤ k) : Lim k L := fun p hp => by
  obtain ⟨q, hq, rfl⟩ := List.getElem_of_mem hp
  have := h q hq
  rw [List.getD_eq_getElem?_getD, List.getElem?_eq_getElem hq] at this
  exact this
theorem sigN_lim {S : List Pt} {ns : List Int} (hS : ∀ p ∈ S, Four p) (hz : ∀ z ∈ ns, (Lit.int .i8 z).wf = true) : Lim 129 (sigN S ns) := by
  refine lim_of fun q hq => ?_
  rw [sigN_len] at hq
  rw [sigN_at S ns q hq]
  have h1 := nzA_lim hz q
  have h2 := hS _ (mem_getD hq)
  unfold Four at h2
  exact ⟨by simp only; omega, by simp only; omega⟩
/-- What process 3 holds ahead of hearing number i. -/
def AtI (S : List Pt) (NS : List (List Int)) (st : Nat → Held) (i : Nat) : Prop := i = 0 ∨ ∃ j, i = j + 1 ∧ st 3 = (heldN S NS j, i)
theorem next_held {S : List Pt} {NS : List (List Int)} {st : Nat → Held} {i : Nat} (h : AtI S NS st i) : nextH (st 3) (decide (i = 0)) (sigN S (NS.getD i [])) = (heldN S NS i, i + 1) := by
  unfold nextH
  rcases h with rfl | ⟨j, rfl, e⟩
  · rw [if_pos (by simp)]; rfl
  · rw [if_neg (by simp), e]
    show (mixL (heldN S NS j) (sigN S (NS.getD (j + 1) [])) (sigN S (NS.getD (j + 1) [])).length, j + 1 + 1) = _
    rw [sigN_len]; rfl
/-- What its hearing tells. -/
def toldI (S : List Pt) (NS : List (List Int)) (st : Nat → Held) (i : Nat) : Told :=
  ⟨0, hearT (heldN S NS i), if hearT (heldN S NS i) = true then hearB (heldN S NS i) else [], (hearG 16 0 0 st 3 (heldN S NS i) (i + 1)).1, (hearG 16 0 0 st 3 (heldN S NS i) (i + 1)).2.1, (hearG 16 0 0 st 3 (heldN S NS i) (i + 1)).2.2⟩
theorem hears_held {S : List Pt} {NS : List (List Int)} {st : Nat → Held} {i : Nat} (h : AtI S NS st i) (hS : ∀ p ∈ S, Four p) (hz : ∀ z ∈ NS.getD i [], (Lit.int .i8 z).wf = true) (hK : S.length ≤ 16392) :
    Hears 16 0 0 st 3 (decide (i = 0)) (sigN S (NS.getD i [])) (toldI S NS st i) := by
  have hl := sigN_lim hS hz
  refine .inr (.inr (.inr ⟨by unfold isOut; omega, ⟨by rw [sigN_len]; exact hK, fun p hp => by have := hl p hp; omega⟩, fun hs => ?_, ?_⟩))
  · obtain ⟨h0, h1⟩ := hs
    rcases h with rfl | ⟨j, rfl, e⟩
    · exact absurd h0 (by simp)
    · rw [show ((3 : Int)).toNat = 3 from rfl, e, heldN_len, sigN_len] at h1
      omega
  · show _ = _
    rw [show ((3 : Int)).toNat = 3 from rfl, next_held h]
    rfl
theorem told_next {S : List Pt} {NS : List (List Int)} {st : Nat → Held} {i : Nat} (hT : hearT (heldN S NS i) = false) (hi : i + 1 < 16) : AtI S NS (toldI S NS st i).st (i + 1) ∧ (toldI S NS st i).heard = 0 ∧ (toldI S NS st i).gone = 0 := by
  have e : hearG 16 0 0 st 3 (heldN S NS i) (i + 1) = (upd st 3 (heldN S NS i, i + 1), 0, 0) := by
    unfold hearG
    rw [if_neg (by rw [hT]; decide), if_neg (by omega)]
  unfold toldI
  simp only [e]
  exact ⟨.inr ⟨i, rfl, by unfold upd; simp⟩, trivial, trivial⟩
theorem made_zero (n : Nat) : madeCells (Value.int .i64 0).cells (n * 1) = ((List.replicate n (0 : Int)).map (Value.int .i64)).toArray := by
  unfold madeCells
  apply Array.ext
  · simp
  · intro i h1 h2
    simp [Value.cells, Nat.mod_one]
theorem info3 : (Try.prog.info? 3).map (fun i => (i.zero, i.size, i.bytes)) = some (some (.int .i64 0), 1, 8) := by kernel_rfl
/-- A slice of small numbers. -/
structure NB where
  A : Option Addr
  m : Nat
  d : Nat
  ns : List Int
def IsN (w : World) (A : Option Addr) (i : Nat) (o : NB) : Prop := ∃ ad, A = some ad ∧ ad.block < w.heap.size ∧ w.cell? (ad.add i) = some (.slice o.A o.m o.d) ∧ Ints w .i8 o.A o.m o.ns
def IsNs (w : World) (A : Option Addr) (len : Nat) (bs : List NB) : Prop := bs.length = len ∧ len ≤ 9223372036854775807 ∧ ∀ i o, bs[i]? = some o → IsN w A i o
theorem open_noise {H : Type} {enc : TypeId × Value → H} {w : World} {A : Option Addr} {len cap : Nat} {d : DataW H} {p : List MemPlace}
    (h : DataW.Trod enc Try.prog w 0 (fun _ => true) true 63 (.slice A len cap) d p) : ∃ bs, IsNs w A len bs := by
  obtain ⟨hm, he⟩ := open_elems (C := 1) Try.underlying63 (by kernel_rfl) (by omega) h
  obtain ⟨l, hl, hp⟩ := list_of (α := NB) (n := len) (p := fun i o => IsN w A i o) (fun i hi => by
      obtain ⟨ad, cs, y, m, e, hb, hlen, hc, ht⟩ := he i hi
      match cs, hlen with
      | [v], _ =>
        obtain ⟨A', l', c', ns, rfl, hI⟩ := open_i8s ht
        have := hc 0 (by omega)
        rw [Nat.mul_one, Nat.add_zero] at this
        exact ⟨⟨A', l', c', ns⟩, ad, e, hb, this, hI⟩)
  exact ⟨l, hl, hm, hp⟩
def nsOf (bs : List NB) : List (List Int) := bs.map NB.ns
theorem IsNs.at_ {w wr : World} {A : Option Addr} {len i : Nat} {bs : List NB} (h : IsNs w A len bs) (F : Frm No w wr) (hi : i < len) : ∃ (ad : Addr) (B : Option Addr) (m d : Nat), A = some ad ∧ wr.cell? (ad.add i) = some (.slice B m d) ∧ Ints wr .i8 B m ((nsOf bs).getD i []) := by
  have hi' : i < bs.length := by rw [h.1]; exact hi
  obtain ⟨ad, e, hb, c0, r1⟩ := h.2.2 i _ (List.getElem?_eq_getElem hi')
  have eg : (nsOf bs).getD i [] = bs[i].ns := by unfold nsOf; rw [List.getD_eq_getElem?_getD, List.getElem?_map, List.getElem?_eq_getElem hi']; rfl
  refine ⟨ad, bs[i].A, bs[i].m, bs[i].d, e, ?_, by rw [eg]; exact Ints.frmN r1 F⟩
  rw [← c0]; exact World.cell?_of_block (F.block _ (by rw [block_add]; exact hb) (fun h => h))
theorem IsNs.wf {w : World} {A : Option Addr} {len : Nat} {bs : List NB} (h : IsNs w A len bs) (i : Nat) : ∀ z ∈ (nsOf bs).getD i [], (Lit.int .i8 z).wf = true := by
  by_cases hi : i < len
  · obtain ⟨ad, B, m, d, e, c0, r1⟩ := h.at_ (Frm.refl No w) hi
    exact r1.2.2.1
  · rw [List.getD_eq_getElem?_getD, List.getElem?_eq_none (by unfold nsOf; rw [List.length_map, h.1]; omega)]
    intro z hz
    exact absurd hz (by simp)
end Go.Proofs.Ytcdjofneijlbgaa.A
