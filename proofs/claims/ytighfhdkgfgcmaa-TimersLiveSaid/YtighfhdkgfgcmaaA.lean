/- What the small methods of timers do. -/
import Derived.Test.YtighfhdkgfgcmaaProg
import Derived.Test.YtighfhdkgfgcmaaL
import Derived.Test.YtighfhdkgfgcmaaN
import Derived.Deep.QuietTactic
import Derived.Deep.RegionHeld3
namespace Go.Proofs.Ytighfhdkgfgcmaa.A
open Go.RowKit Go.Proofs.Ytighfhdkgfgcmaa.K Go.Proofs.Ytighfhdkgfgcmaa.N
set_option linter.unusedVariables false
set_option linter.unusedSimpArgs false

/-- A set of timers: whether it was made, and what each has left. -/
def setA (m : Bool) (L : List Int) : Array Value := (Value.bool m :: L.map (Value.int .i64)).toArray
def IsT (w : World) (g : Nat) (m : Bool) (L : List Int) : Prop := Blk w g (setA m L) 41 ∧ L.length = 8

theorem IsT.cell0 {w : World} {g : Nat} {m : Bool} {L : List Int} (h : IsT w g m L) : w.cell? ⟨g, 0, none⟩ = some (.bool m) := by
  rw [Blk.cell h.1]; rfl
theorem IsT.cell {w : World} {g : Nat} {m : Bool} {L : List Int} (h : IsT w g m L) {k : Nat} (hk : k < 8) : w.cell? ⟨g, 1 + k, none⟩ = some (.int .i64 (L.getD k 0)) := by
  rw [Blk.cell h.1, Nat.add_comm]
  have := h.2
  simp [setA, List.getD_eq_getElem?_getD, List.getElem?_eq_getElem (show k < L.length by omega)]
theorem IsT.set {w : World} {g : Nat} {m : Bool} {L : List Int} (h : IsT w g m L) (k : Nat) (v : Int) : IsT (w.setCell ⟨g, 1 + k, none⟩ (.int .i64 v)) g m (L.set k v) := by
  refine ⟨?_, by rw [List.length_set]; exact h.2⟩
  have := Blk.set h.1 (1 + k) (.int .i64 v)
  rw [show (setA m L).setIfInBounds (1 + k) (.int .i64 v) = setA m (L.set k v) by
    simp [setA, Nat.add_comm 1 k, List.map_set]] at this
  exact this
theorem IsT.frm {w w' : World} {S : Nat → Prop} {g : Nat} {m : Bool} {L : List Int} (h : IsT w g m L) (f : Frm S w w') (hs : ¬ S g) : IsT w' g m L := ⟨f.blk h.1 hs, h.2⟩
theorem IsT.alloc {w : World} {g : Nat} {m : Bool} {L : List Int} (h : IsT w g m L) (o : Obj) : IsT (w.alloc o) g m L := ⟨h.1.alloc o, h.2⟩

theorem ret_eq {a b : Value} (h : a = b) : Ending.returned a = .returned b := by rw [h]

set_option maxHeartbeats 400000 in
theorem new_ok (w : World) : Calls Try.prog 6 #[] w fun e w' => e = .returned (.pointer (some ⟨w.heap.size, 0, none⟩)) ∧ IsT w' w.heap.size true [0, 0, 0, 0, 0, 0, 0, 0] ∧ Frm No w w' := by
  go_enter Try.func6, Try.ntmps6
  go_wp2
  go_ret
  exact ⟨rfl, ⟨Blk.new _ _ _, rfl⟩, (Frm.refl _ _).alloc _⟩

/-- What ask answers. -/
def askE (m : Bool) (i : Int) : Int := if m = true then (if 0 ≤ i ∧ i < 8 then 0 else 1) else 6

set_option maxHeartbeats 400000 in
theorem ask_nil (w : World) (i : Int) : Calls Try.prog 19 #[.pointer none, .int .i64 i] w fun e w' => e = .returned (.int .i64 6) ∧ w = w' := by
  go_enter Try.func19, Try.ntmps19
  go_wp2
  go_ret
  exact ⟨rfl, rfl⟩

set_option maxHeartbeats 400000 in
theorem ask_zero (w : World) (g : Nat) (L : List Int) (i : Int) (h : IsT w g false L) : Calls Try.prog 19 #[.pointer (some ⟨g, 0, none⟩), .int .i64 i] w fun e w' => e = .returned (.int .i64 6) ∧ w = w' := by
  have c0 := h.cell0
  go_enter Try.func19, Try.ntmps19
  go_wp2
  go_ret
  exact ⟨rfl, rfl⟩

set_option maxHeartbeats 400000 in
theorem ask_ok (w : World) (g : Nat) (L : List Int) (i : Int) (h : IsT w g true L) (h0 : 0 ≤ i) (h8 : i < 8) : Calls Try.prog 19 #[.pointer (some ⟨g, 0, none⟩), .int .i64 i] w fun e w' => e = .returned (.int .i64 0) ∧ w = w' := by
  have c0 := h.cell0
  go_enter Try.func19, Try.ntmps19
  go_wp2
  go_ret
  exact ⟨rfl, rfl⟩

set_option maxHeartbeats 400000 in
theorem ask_bad (w : World) (g : Nat) (L : List Int) (i : Int) (h : IsT w g true L) (h0 : ¬ (0 ≤ i ∧ i < 8)) : Calls Try.prog 19 #[.pointer (some ⟨g, 0, none⟩), .int .i64 i] w fun e w' => e = .returned (.int .i64 1) ∧ w = w' := by
  have c0 := h.cell0
  by_cases hl : i < 0
  · clear h0
    go_enter Try.func19, Try.ntmps19
    go_wp2
    go_ret
    exact ⟨rfl, rfl⟩
  · have hh : 8 ≤ i := by omega
    clear h0
    go_enter Try.func19, Try.ntmps19
    go_wp2
    go_ret
    exact ⟨rfl, rfl⟩

set_option maxHeartbeats 400000 in
theorem left_ok (w : World) (g : Nat) (L : List Int) (k : Nat) (h : IsT w g true L) (hk : k < 8) : Calls Try.prog 10 #[.pointer (some ⟨g, 0, none⟩), .int .i64 k] w fun e w' => e = .returned (.int .i64 (L.getD k 0)) ∧ w = w' := by
  have hc := h.cell hk
  generalize L.getD k 0 = z at *
  go_enter Try.func10, Try.ntmps10
  go_wp2_with (go_at_call 19; refine (ask_ok _ g L k h (by omega) (by omega)).mono ?_; rintro e w' ⟨rfl, rfl⟩)
  go_ret
  exact ⟨rfl, rfl⟩
end Go.Proofs.Ytighfhdkgfgcmaa.A
