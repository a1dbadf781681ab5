/- The fixed calls of layer 5 come out as they must. -/
import Derived.Test.YtighfhdkgfgcmaaE
namespace Go.Proofs.Ytighfhdkgfgcmaa.A
open Go.RowKit Go.Proofs.Ytighfhdkgfgcmaa.K Go.Proofs.Ytighfhdkgfgcmaa.N
set_option linter.unusedVariables false
set_option linter.unusedSimpArgs false

theorem tick_is (w : World) (g : Nat) (L L2 : List Int) (O : List Nat) (h : IsT w g true L) (hb : Fit L) (h1 : tickL L = L2) (h2 : tickO L = O) :
    Calls Try.prog 9 #[.pointer (some ⟨g, 0, none⟩)] w (Handed (fun x => x = g) (fun w' => IsT w' g true L2) w (ints O)) := h1 ▸ h2 ▸ tick_ok w g L h fun k => (hb.2 k).2

theorem fit_of {L : List Int} (h : L.length = 8) (hx : ∀ x ∈ L, 0 ≤ x ∧ x ≤ 1000) : Fit L := by
  refine ⟨h, fun k => ?_⟩
  by_cases hk : k < L.length
  · rw [List.getD_eq_getElem?_getD, List.getElem?_eq_getElem hk]; exact hx _ (List.getElem_mem hk)
  · rw [List.getD_eq_getElem?_getD, List.getElem?_eq_none (by omega)]; exact ⟨by decide, by decide⟩

set_option maxRecDepth 100000 in
set_option maxHeartbeats 2000000 in
theorem alive_yes (w : World) : Calls Try.prog 11 #[] w fun e w' => e = .returned (.bool true) ∧ Frm No w w' := by
  have hw : w.heap.size ≤ w.heap.size := Nat.le_refl _
  go_enter Try.func11, Try.ntmps11
  go_wp2_with fail
  refine (new_ok _).mono ?_
  rintro e w1 ⟨rfl, t1, f1⟩
  go_wp2_with fail
  refine (start_ok _ w.heap.size _ 3 2 t1 (by omega) (by omega) (by omega)).mono ?_
  rintro e w2 ⟨rfl, t2, f2⟩
  have g2 := f1.thenG f2 (.inr hw)
  clear f1 f2 t1
  go_wp2_with fail
  refine (start_ok _ w.heap.size _ 1 1 t2 (by omega) (by omega) (by omega)).mono ?_
  rintro e w3 ⟨rfl, t3, f3⟩
  have g3 := g2.thenG f3 (.inr hw)
  clear g2 f3 t2
  have t3' : IsT w3 w.heap.size true [0, 1, 0, 2, 0, 0, 0, 0] := t3
  clear t3
  go_wp2_with fail
  refine (tick_is _ w.heap.size _ [0, 0, 0, 1, 0, 0, 0, 0] [1] t3' (fit_of rfl (by decide)) (by decide) (by decide)).mono ?_
  rintro e w4 ⟨v4, rfl, o4, f4, t4⟩
  obtain ⟨A4, c4, rfl, k4⟩ := handed_cells o4
  obtain ⟨ad4, rfl, ⟨cs4, hb4⟩, k4'⟩ := k4 0 (by simp)
  have m4 : w4.cell? ad4 = some (.int .i64 1) := k4'
  have hne4 : ¬ ad4.block = w.heap.size := Blk.ne hb4 t4.1 (by decide)
  have g4 := g3.thenG f4 (.inr hw)
  clear g3 f4 t3' k4 k4' o4
  go_wp2_with fail
  refine (tick_is _ w.heap.size _ [0, 0, 0, 0, 0, 0, 0, 0] [3] t4 (fit_of rfl (by decide)) (by decide) (by decide)).mono ?_
  rintro e w5 ⟨v5, rfl, o5, f5, t5⟩
  obtain ⟨A5, c5, rfl, k5⟩ := handed_cells o5
  obtain ⟨ad5, rfl, ⟨cs5, hb5⟩, k5'⟩ := k5 0 (by simp)
  have m5 : w5.cell? ad5 = some (.int .i64 3) := k5'
  have m4' : w5.cell? ad4 = some (.int .i64 1) := (World.cell?_of_block (f5.block _ hb4.lt hne4)).trans m4
  have g5 := g4.thenG f5 (.inr hw)
  clear g4 f5 t4 k5 k5' o5 m4 hb4 hb5
  go_wp2_with fail
  refine (start_bad _ w.heap.size _ 8 1 t5 (by omega)).mono ?_
  rintro e w6 ⟨rfl, rfl⟩
  go_wp2_with fail
  refine (running_ok _ w.heap.size _ t5).mono ?_
  rintro e w7 ⟨v7, rfl, o7, f7, -⟩
  obtain ⟨A7, c7, rfl, -⟩ := handed_cells (l := []) (by exact o7)
  have g7 := g5.thenN f7
  clear g5 f7 o7
  go_wp2_with fail
  go_ret
  exact ⟨rfl, g7⟩

/-! ### The calls that come in -/
structure TOp where
  kind : Int
  i : Int
  n : Int

def IsOps (w : World) (A : Option Addr) (n : Nat) (ops : List TOp) : Prop :=
  ops.length = n ∧ n ≤ 9223372036854775807 ∧ ∀ i o, ops[i]? = some o → ∃ ad, A = some ad ∧ ad.block < w.heap.size ∧
    w.cell? (ad.add (i * 3)) = some (.int .i64 o.kind) ∧ w.cell? (ad.add (i * 3 + 1)) = some (.int .i64 o.i) ∧ w.cell? (ad.add (i * 3 + 2)) = some (.int .i64 o.n)

open Go.ChangeShapes Go.WideShapes in
theorem open_ops {H : Type} {enc : TypeId × Value → H} {w : World} {A : Option Addr} {len cap : Nat} {d : DataW H} {p : List MemPlace}
    (h : DataW.Trod enc Try.prog w 0 (fun _ => true) true 22 (.slice A len cap) d p) : ∃ ops, IsOps w A len ops := by
  obtain ⟨hm, he⟩ := open_elems (C := 3) Try.underlying22 (by kernel_rfl) (by omega) h
  obtain ⟨l, hl, hp⟩ := list_of (α := TOp) (n := len) (p := fun i o => ∃ ad, A = some ad ∧ ad.block < w.heap.size ∧
    w.cell? (ad.add (i * 3)) = some (.int .i64 o.kind) ∧ w.cell? (ad.add (i * 3 + 1)) = some (.int .i64 o.i) ∧ w.cell? (ad.add (i * 3 + 2)) = some (.int .i64 o.n)) (fun i hi => by
      obtain ⟨ad, cs, y, m, e, hb, hlen, hc, ht⟩ := he i hi
      have hf := open_field Try.underlying28 (by kernel_rfl) (by kernel_rfl) ht
      obtain ⟨v0, z0, n0, c0, t0⟩ := hf 0 _ rfl
      obtain ⟨v1, z1, n1, c1, t1⟩ := hf 1 _ rfl
      obtain ⟨v2, z2, n2, c2, t2⟩ := hf 2 _ rfl
      obtain ⟨k, rfl, _⟩ := open_int_cell Try.underlying3 t0
      obtain ⟨ii, rfl, _⟩ := open_int_cell Try.underlying3 t1
      obtain ⟨nn, rfl, _⟩ := open_int_cell Try.underlying3 t2
      exact ⟨⟨k, ii, nn⟩, ad, e, hb, (hc 0 (by omega)).trans c0, (hc 1 (by omega)).trans c1, (hc 2 (by omega)).trans c2⟩)
  exact ⟨l, hl, hm, hp⟩
end Go.Proofs.Ytighfhdkgfgcmaa.A
