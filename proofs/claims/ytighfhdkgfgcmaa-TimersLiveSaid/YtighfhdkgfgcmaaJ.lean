/- What the document's timers do; lists that are the same. -/
import Derived.Test.YtighfhdkgfgcmaaH
namespace Go.Proofs.Ytighfhdkgfgcmaa.A
open Go.RowKit Go.Proofs.Ytighfhdkgfgcmaa.K Go.Proofs.Ytighfhdkgfgcmaa.N
set_option linter.unusedVariables false
set_option linter.unusedSimpArgs false

/-- The document's timers: the time, and when each ends. -/
def refA (N : Int) (E : List Int) : Array Value := (Value.int .i64 N :: E.map (Value.int .i64)).toArray
def IsE (w : World) (g : Nat) (N : Int) (E : List Int) : Prop := Blk w g (refA N E) 38 ∧ E.length = 8
theorem IsE.cell0 {w : World} {g : Nat} {N : Int} {E : List Int} (h : IsE w g N E) : w.cell? ⟨g, 0, none⟩ = some (.int .i64 N) := by
  rw [Blk.cell h.1]; rfl
theorem IsE.cell {w : World} {g : Nat} {N : Int} {E : List Int} (h : IsE w g N E) {k : Nat} (hk : k < 8) : w.cell? ⟨g, 1 + k, none⟩ = some (.int .i64 (E.getD k 0)) := by
  rw [Blk.cell h.1, Nat.add_comm]
  have := h.2
  simp [refA, List.getD_eq_getElem?_getD, List.getElem?_eq_getElem (show k < E.length by omega)]
theorem IsE.set {w : World} {g : Nat} {N : Int} {E : List Int} (h : IsE w g N E) (k : Nat) (v : Int) : IsE (w.setCell ⟨g, 1 + k, none⟩ (.int .i64 v)) g N (E.set k v) := by
  refine ⟨?_, by rw [List.length_set]; exact h.2⟩
  have := Blk.set h.1 (1 + k) (.int .i64 v)
  rw [show (refA N E).setIfInBounds (1 + k) (.int .i64 v) = refA N (E.set k v) by
    simp [refA, Nat.add_comm 1 k, List.map_set]] at this
  exact this
theorem IsE.set0 {w : World} {g : Nat} {N : Int} {E : List Int} (h : IsE w g N E) (v : Int) : IsE (w.setCell ⟨g, 0, none⟩ (.int .i64 v)) g v E := by
  refine ⟨?_, h.2⟩
  have := Blk.set h.1 0 (.int .i64 v)
  rw [show (refA N E).setIfInBounds 0 (.int .i64 v) = refA v E by simp [refA]] at this
  exact this
theorem IsE.frm {w w' : World} {S : Nat → Prop} {g : Nat} {N : Int} {E : List Int} (h : IsE w g N E) (f : Frm S w w') (hs : ¬ S g) : IsE w' g N E := ⟨f.blk h.1 hs, h.2⟩
theorem IsE.drewN {w : World} {g : Nat} {N : Int} {E : List Int} (h : IsE w g N E) (n : Nat) : IsE (w.drewN n) g N E := h
theorem IsE.alloc {w : World} {g : Nat} {N : Int} {E : List Int} (h : IsE w g N E) (o : Obj) : IsE (w.alloc o) g N E := ⟨h.1.alloc o, h.2⟩

def rstartL (N : Int) (E : List Int) (i n : Int) : List Int := if inB i ∧ 1 ≤ n ∧ n ≤ 1000 then E.set i.toNat (N + n) else E

set_option maxHeartbeats 1000000 in
theorem rstart_any (w : World) (g : Nat) (N : Int) (E : List Int) (i n : Int) (h : IsE w g N E) (hN : 0 ≤ N) (hN2 : N ≤ 1000000) :
    Calls Try.prog 12 #[.pointer (some ⟨g, 0, none⟩), .int .i64 i, .int .i64 n] w fun e w' => e = .returned (.int .i64 (startE i n)) ∧ IsE w' g N (rstartL N E i n) ∧ Frm (fun x => x = g) w w' := by
  by_cases h0 : i < 0
  · have e1 : startE i n = 1 := by unfold startE; rw [if_neg (fun h => by have := h.1.1; omega)]
    have e2 : rstartL N E i n = E := by unfold rstartL; rw [if_neg (fun h => by have := h.1.1; omega)]
    rw [e1, e2]
    clear e1 e2
    go_enter Try.func12, Try.ntmps12
    go_wp2
    go_ret
    exact ⟨rfl, h, Frm.refl _ _⟩
  by_cases h1 : 7 < i
  · have e1 : startE i n = 1 := by unfold startE; rw [if_neg (fun h => by have := h.1.2; omega)]
    have e2 : rstartL N E i n = E := by unfold rstartL; rw [if_neg (fun h => by have := h.1.2; omega)]
    rw [e1, e2]
    clear e1 e2
    go_enter Try.func12, Try.ntmps12
    go_wp2
    go_ret
    exact ⟨rfl, h, Frm.refl _ _⟩
  by_cases h2 : n < 1
  · have e1 : startE i n = 1 := by unfold startE; rw [if_neg (fun h => by omega)]
    have e2 : rstartL N E i n = E := by unfold rstartL; rw [if_neg (fun h => by omega)]
    rw [e1, e2]
    clear e1 e2
    go_enter Try.func12, Try.ntmps12
    go_wp2
    go_ret
    exact ⟨rfl, h, Frm.refl _ _⟩
  by_cases h3 : 1000 < n
  · have e1 : startE i n = 1 := by unfold startE; rw [if_neg (fun h => by omega)]
    have e2 : rstartL N E i n = E := by unfold rstartL; rw [if_neg (fun h => by omega)]
    rw [e1, e2]
    clear e1 e2
    go_enter Try.func12, Try.ntmps12
    go_wp2
    go_ret
    exact ⟨rfl, h, Frm.refl _ _⟩
  obtain ⟨k, rfl⟩ := Int.eq_ofNat_of_zero_le (show 0 ≤ i by omega)
  have hk : k < 8 := by omega
  have hin : inB (k : Int) := ⟨by omega, by omega⟩
  have e1 : startE k n = 0 := by unfold startE; rw [if_pos ⟨hin, by omega, by omega⟩]
  have e2 : rstartL N E k n = E.set k (N + n) := by unfold rstartL; rw [if_pos ⟨hin, by omega, by omega⟩]; rfl
  rw [e1, e2]
  have c0 := h.cell0
  have ck := h.cell hk
  have fk := h.1.free (1 + k)
  have i0 : (0 : Int) ≤ (k : Int) := by omega
  have i8 : (k : Int) < 8 := by omega
  have fin := (h.set k (N + n))
  generalize E.getD k 0 = z at *
  have FIN := Lib.hid fin
  clear e1 e2 hin fin h
  go_enter Try.func12, Try.ntmps12
  go_wp2_with fail
  go_region
  all_goals go_wp2_with fail
  all_goals go_ret
  all_goals exact ⟨rfl, ⟨FIN.out.1.drew, FIN.out.2⟩, ((Frm.refl _ _).self _ _).drew⟩

def rstopL (E : List Int) (i : Int) : List Int := if inB i then E.set i.toNat 0 else E
set_option maxHeartbeats 1000000 in
theorem rstop_any (w : World) (g : Nat) (N : Int) (E : List Int) (i : Int) (h : IsE w g N E) :
    Calls Try.prog 13 #[.pointer (some ⟨g, 0, none⟩), .int .i64 i] w fun e w' => e = .returned (.int .i64 (stopE i)) ∧ IsE w' g N (rstopL E i) ∧ Frm (fun x => x = g) w w' := by
  by_cases h0 : i < 0
  · have e1 : stopE i = 1 := by unfold stopE; rw [if_neg (fun h => by have := h.1; omega)]
    have e2 : rstopL E i = E := by unfold rstopL; rw [if_neg (fun h => by have := h.1; omega)]
    rw [e1, e2]
    clear e1 e2
    go_enter Try.func13, Try.ntmps13
    go_wp2
    go_ret
    exact ⟨rfl, h, Frm.refl _ _⟩
  by_cases h1 : 7 < i
  · have e1 : stopE i = 1 := by unfold stopE; rw [if_neg (fun h => by have := h.2; omega)]
    have e2 : rstopL E i = E := by unfold rstopL; rw [if_neg (fun h => by have := h.2; omega)]
    rw [e1, e2]
    clear e1 e2
    go_enter Try.func13, Try.ntmps13
    go_wp2
    go_ret
    exact ⟨rfl, h, Frm.refl _ _⟩
  obtain ⟨k, rfl⟩ := Int.eq_ofNat_of_zero_le (show 0 ≤ i by omega)
  have hk : k < 8 := by omega
  have hin : inB (k : Int) := ⟨by omega, by omega⟩
  have e1 : stopE k = 0 := by unfold stopE; rw [if_pos hin]
  have e2 : rstopL E k = E.set k 0 := by unfold rstopL; rw [if_pos hin]; rfl
  rw [e1, e2]
  have ck := h.cell hk
  have fk := h.1.free (1 + k)
  generalize E.getD k 0 = z at *
  have fin := h.set k 0
  have FIN := Lib.hid fin
  clear e1 e2 hin fin h
  go_enter Try.func13, Try.ntmps13
  go_wp2_with fail
  go_ret
  exact ⟨rfl, FIN.out, (Frm.refl _ _).self _ _⟩

def rleftN (N : Int) (E : List Int) (i : Int) : Int := if inB i then (if E.getD i.toNat 0 = 0 then 0 else E.getD i.toNat 0 - N) else 0
set_option maxHeartbeats 1000000 in
theorem rleft_any (w : World) (g : Nat) (N : Int) (E : List Int) (i : Int) (h : IsE w g N E) (hN : 0 ≤ N) (hN2 : N ≤ 1000000) (hE : ∀ k, 0 ≤ E.getD k 0 ∧ E.getD k 0 ≤ 2000000) :
    Calls Try.prog 17 #[.pointer (some ⟨g, 0, none⟩), .int .i64 i] w fun e w' => e = .returned (.int .i64 (rleftN N E i)) ∧ Frm No w w' := by
  by_cases h0 : i < 0
  · have e1 : rleftN N E i = 0 := by unfold rleftN; rw [if_neg (fun h => by have := h.1; omega)]
    rw [e1]
    clear e1
    go_enter Try.func17, Try.ntmps17
    go_wp2
    go_ret
    exact ⟨rfl, Frm.refl _ _⟩
  by_cases h1 : 7 < i
  · have e1 : rleftN N E i = 0 := by unfold rleftN; rw [if_neg (fun h => by have := h.2; omega)]
    rw [e1]
    clear e1
    go_enter Try.func17, Try.ntmps17
    go_wp2
    go_ret
    exact ⟨rfl, Frm.refl _ _⟩
  obtain ⟨k, rfl⟩ := Int.eq_ofNat_of_zero_le (show 0 ≤ i by omega)
  have hk : k < 8 := by omega
  have hin : inB (k : Int) := ⟨by omega, by omega⟩
  have ck := h.cell hk
  have c0 := h.cell0
  have i0 : (0 : Int) ≤ (k : Int) := by omega
  have i8 : (k : Int) < 8 := by omega
  have hz := hE k
  by_cases hz0 : E.getD k 0 = 0
  · have e1 : rleftN N E k = 0 := by unfold rleftN; rw [if_pos hin, Int.toNat_natCast, if_pos hz0]
    rw [e1]
    rw [hz0] at ck
    clear e1 hin hz hz0 hE
    go_enter Try.func17, Try.ntmps17
    go_wp2_with fail
    go_ret
    exact ⟨rfl, Frm.refl _ _⟩
  · have e1 : rleftN N E k = E.getD k 0 - N := by unfold rleftN; rw [if_pos hin, Int.toNat_natCast, if_neg hz0]
    rw [e1]
    generalize E.getD k 0 = z at *
    have dz : (z == 0) = false := by simpa using hz0
    clear e1 hin hz0 hE
    go_enter Try.func17, Try.ntmps17
    go_wp2_with fail
    go_quiet (fail)
    go_wp2_with fail
    go_ret
    exact ⟨rfl, (Frm.refl _ _).drewN _⟩
end Go.Proofs.Ytighfhdkgfgcmaa.A
