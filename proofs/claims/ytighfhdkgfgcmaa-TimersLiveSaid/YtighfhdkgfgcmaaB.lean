/- What Start, Stop, Left, Clear, Running, Tick of timers do. -/
import Derived.Test.YtighfhdkgfgcmaaA
namespace Go.Proofs.Ytighfhdkgfgcmaa.A
open Go.RowKit Go.Proofs.Ytighfhdkgfgcmaa.K Go.Proofs.Ytighfhdkgfgcmaa.N
set_option linter.unusedVariables false
set_option linter.unusedSimpArgs false

set_option maxHeartbeats 400000 in
theorem left_bad (w : World) (g : Nat) (L : List Int) (i : Int) (h : IsT w g true L) (h0 : ¬ (0 ≤ i ∧ i < 8)) : Calls Try.prog 10 #[.pointer (some ⟨g, 0, none⟩), .int .i64 i] w fun e w' => e = .returned (.int .i64 0) ∧ w = w' := by
  have H0 := Lib.hid h0
  clear h0
  go_enter Try.func10, Try.ntmps10
  go_wp2_with (go_at_call 19; refine (ask_bad _ g L i h H0.out).mono ?_; rintro e w' ⟨rfl, rfl⟩)
  go_ret
  exact ⟨rfl, rfl⟩
set_option maxHeartbeats 400000 in
theorem left_nil (w : World) (i : Int) : Calls Try.prog 10 #[.pointer none, .int .i64 i] w fun e w' => e = .returned (.int .i64 0) ∧ w = w' := by
  go_enter Try.func10, Try.ntmps10
  go_wp2_with (go_at_call 19; refine (ask_nil _ i).mono ?_; rintro e w' ⟨rfl, rfl⟩)
  go_ret
  exact ⟨rfl, rfl⟩
set_option maxHeartbeats 400000 in
theorem left_zero (w : World) (g : Nat) (L : List Int) (i : Int) (h : IsT w g false L) : Calls Try.prog 10 #[.pointer (some ⟨g, 0, none⟩), .int .i64 i] w fun e w' => e = .returned (.int .i64 0) ∧ w = w' := by
  go_enter Try.func10, Try.ntmps10
  go_wp2_with (go_at_call 19; refine (ask_zero _ g L i h).mono ?_; rintro e w' ⟨rfl, rfl⟩)
  go_ret
  exact ⟨rfl, rfl⟩

set_option maxHeartbeats 400000 in
theorem start_ok (w : World) (g : Nat) (L : List Int) (k : Nat) (n : Int) (h : IsT w g true L) (hk : k < 8) (h1 : 1 ≤ n) (h2 : n ≤ 1000) :
    Calls Try.prog 7 #[.pointer (some ⟨g, 0, none⟩), .int .i64 k, .int .i64 n] w fun e w' => e = .returned (.int .i64 0) ∧ IsT w' g true (L.set k n) ∧ Frm (fun x => x = g) w w' := by
  have hc := h.cell hk
  have hf := h.1.free (1 + k)
  generalize L.getD k 0 = z at *
  go_enter Try.func7, Try.ntmps7
  go_wp2_with (go_at_call 19; refine (ask_ok _ g L k h (by omega) (by omega)).mono ?_; rintro e w' ⟨rfl, rfl⟩)
  go_ret
  exact ⟨rfl, h.set k n, (Frm.refl _ _).self _ _⟩
set_option maxHeartbeats 400000 in
theorem start_long (w : World) (g : Nat) (L : List Int) (k : Nat) (n : Int) (h : IsT w g true L) (hk : k < 8) (h1 : n < 1 ∨ 1000 < n) :
    Calls Try.prog 7 #[.pointer (some ⟨g, 0, none⟩), .int .i64 k, .int .i64 n] w fun e w' => e = .returned (.int .i64 1) ∧ w = w' := by
  by_cases hl : n < 1
  · clear h1
    go_enter Try.func7, Try.ntmps7
    go_wp2_with (go_at_call 19; refine (ask_ok _ g L k h (by omega) (by omega)).mono ?_; rintro e w' ⟨rfl, rfl⟩)
    go_ret
    exact ⟨rfl, rfl⟩
  · have hh : 1000 < n := by omega
    clear h1
    go_enter Try.func7, Try.ntmps7
    go_wp2_with (go_at_call 19; refine (ask_ok _ g L k h (by omega) (by omega)).mono ?_; rintro e w' ⟨rfl, rfl⟩)
    go_ret
    exact ⟨rfl, rfl⟩
set_option maxHeartbeats 400000 in
theorem start_bad (w : World) (g : Nat) (L : List Int) (i n : Int) (h : IsT w g true L) (h0 : ¬ (0 ≤ i ∧ i < 8)) :
    Calls Try.prog 7 #[.pointer (some ⟨g, 0, none⟩), .int .i64 i, .int .i64 n] w fun e w' => e = .returned (.int .i64 1) ∧ w = w' := by
  have H0 := Lib.hid h0
  clear h0
  go_enter Try.func7, Try.ntmps7
  go_wp2_with (go_at_call 19; refine (ask_bad _ g L i h H0.out).mono ?_; rintro e w' ⟨rfl, rfl⟩)
  go_ret
  exact ⟨rfl, rfl⟩
set_option maxHeartbeats 400000 in
theorem start_nil (w : World) (i n : Int) : Calls Try.prog 7 #[.pointer none, .int .i64 i, .int .i64 n] w fun e w' => e = .returned (.int .i64 6) ∧ w = w' := by
  go_enter Try.func7, Try.ntmps7
  go_wp2_with (go_at_call 19; refine (ask_nil _ i).mono ?_; rintro e w' ⟨rfl, rfl⟩)
  go_ret
  exact ⟨rfl, rfl⟩
set_option maxHeartbeats 400000 in
theorem start_zero (w : World) (g : Nat) (L : List Int) (i n : Int) (h : IsT w g false L) : Calls Try.prog 7 #[.pointer (some ⟨g, 0, none⟩), .int .i64 i, .int .i64 n] w fun e w' => e = .returned (.int .i64 6) ∧ w = w' := by
  go_enter Try.func7, Try.ntmps7
  go_wp2_with (go_at_call 19; refine (ask_zero _ g L i h).mono ?_; rintro e w' ⟨rfl, rfl⟩)
  go_ret
  exact ⟨rfl, rfl⟩

set_option maxHeartbeats 400000 in
theorem stop_ok (w : World) (g : Nat) (L : List Int) (k : Nat) (h : IsT w g true L) (hk : k < 8) :
    Calls Try.prog 8 #[.pointer (some ⟨g, 0, none⟩), .int .i64 k] w fun e w' => e = .returned (.int .i64 0) ∧ IsT w' g true (L.set k 0) ∧ Frm (fun x => x = g) w w' := by
  have hc := h.cell hk
  have hf := h.1.free (1 + k)
  generalize L.getD k 0 = z at *
  go_enter Try.func8, Try.ntmps8
  go_wp2_with (go_at_call 19; refine (ask_ok _ g L k h (by omega) (by omega)).mono ?_; rintro e w' ⟨rfl, rfl⟩)
  go_ret
  exact ⟨rfl, h.set k 0, (Frm.refl _ _).self _ _⟩
set_option maxHeartbeats 400000 in
theorem stop_bad (w : World) (g : Nat) (L : List Int) (i : Int) (h : IsT w g true L) (h0 : ¬ (0 ≤ i ∧ i < 8)) :
    Calls Try.prog 8 #[.pointer (some ⟨g, 0, none⟩), .int .i64 i] w fun e w' => e = .returned (.int .i64 1) ∧ w = w' := by
  have H0 := Lib.hid h0
  clear h0
  go_enter Try.func8, Try.ntmps8
  go_wp2_with (go_at_call 19; refine (ask_bad _ g L i h H0.out).mono ?_; rintro e w' ⟨rfl, rfl⟩)
  go_ret
  exact ⟨rfl, rfl⟩
set_option maxHeartbeats 400000 in
theorem stop_nil (w : World) (i : Int) : Calls Try.prog 8 #[.pointer none, .int .i64 i] w fun e w' => e = .returned (.int .i64 6) ∧ w = w' := by
  go_enter Try.func8, Try.ntmps8
  go_wp2_with (go_at_call 19; refine (ask_nil _ i).mono ?_; rintro e w' ⟨rfl, rfl⟩)
  go_ret
  exact ⟨rfl, rfl⟩
set_option maxHeartbeats 400000 in
theorem stop_zero (w : World) (g : Nat) (L : List Int) (i : Int) (h : IsT w g false L) : Calls Try.prog 8 #[.pointer (some ⟨g, 0, none⟩), .int .i64 i] w fun e w' => e = .returned (.int .i64 6) ∧ w = w' := by
  go_enter Try.func8, Try.ntmps8
  go_wp2_with (go_at_call 19; refine (ask_zero _ g L i h).mono ?_; rintro e w' ⟨rfl, rfl⟩)
  go_ret
  exact ⟨rfl, rfl⟩

theorem eight {L : List Int} (h : L.length = 8) : ∃ a b c d e f g i, L = [a, b, c, d, e, f, g, i] := by
  match L, h with
  | [a, b, c, d, e, f, g, i], _ => exact ⟨a, b, c, d, e, f, g, i, rfl⟩

set_option maxHeartbeats 1000000 in
theorem clear_ok (w : World) (g : Nat) (m : Bool) (L : List Int) (h : IsT w g m L) :
    Calls Try.prog 16 #[.pointer (some ⟨g, 0, none⟩)] w fun e w' => e = .returned (.tuple #[]) ∧ IsT w' g m [0, 0, 0, 0, 0, 0, 0, 0] ∧ Frm (fun x => x = g) w w' := by
  obtain ⟨a0, a1, a2, a3, a4, a5, a6, a7, rfl⟩ := eight h.2
  have hb := h.1
  have c1 : w.cell? ⟨g, 1, none⟩ = some (.int .i64 a0) := hb.cell 1
  have c2 : w.cell? ⟨g, 2, none⟩ = some (.int .i64 a1) := hb.cell 2
  have c3 : w.cell? ⟨g, 3, none⟩ = some (.int .i64 a2) := hb.cell 3
  have c4 : w.cell? ⟨g, 4, none⟩ = some (.int .i64 a3) := hb.cell 4
  have c5 : w.cell? ⟨g, 5, none⟩ = some (.int .i64 a4) := hb.cell 5
  have c6 : w.cell? ⟨g, 6, none⟩ = some (.int .i64 a5) := hb.cell 6
  have c7 : w.cell? ⟨g, 7, none⟩ = some (.int .i64 a6) := hb.cell 7
  have c8 : w.cell? ⟨g, 8, none⟩ = some (.int .i64 a7) := hb.cell 8
  have f1 := hb.free 1
  have f2 := hb.free 2
  have f3 := hb.free 3
  have f4 := hb.free 4
  have f5 := hb.free 5
  have f6 := hb.free 6
  have f7 := hb.free 7
  have f8 := hb.free 8
  have fin := ((((((((hb.set 1 (.int .i64 0)).set 2 (.int .i64 0)).set 3 (.int .i64 0)).set 4 (.int .i64 0)).set 5 (.int .i64 0)).set 6 (.int .i64 0)).set 7 (.int .i64 0)).set 8 (.int .i64 0))
  have hz : (((((((((setA m [a0, a1, a2, a3, a4, a5, a6, a7]).setIfInBounds 1 (.int .i64 0)).setIfInBounds 2 (.int .i64 0)).setIfInBounds 3 (.int .i64 0)).setIfInBounds 4 (.int .i64 0)).setIfInBounds 5 (.int .i64 0)).setIfInBounds 6 (.int .i64 0)).setIfInBounds 7 (.int .i64 0)).setIfInBounds 8 (.int .i64 0)) = setA m [0, 0, 0, 0, 0, 0, 0, 0] := by simp [setA]
  rw [hz] at fin
  have fr := ((((((((Frm.refl (fun x => x = g) w).self 1 (.int .i64 0)).self 2 (.int .i64 0)).self 3 (.int .i64 0)).self 4 (.int .i64 0)).self 5 (.int .i64 0)).self 6 (.int .i64 0)).self 7 (.int .i64 0)).self 8 (.int .i64 0)
  have FIN := Lib.hid fin
  have FR := Lib.hid fr
  clear fin hb h hz fr
  go_enter Try.func16, Try.ntmps16
  go_wp2_with fail
  go_end0
  exact ⟨rfl, ⟨FIN.out, rfl⟩, FR.out⟩
set_option maxHeartbeats 400000 in
theorem clear_nil (w : World) : Calls Try.prog 16 #[.pointer none] w fun e w' => e = .returned (.tuple #[]) ∧ w = w' := by
  go_enter Try.func16, Try.ntmps16
  go_wp2
  go_end0
  exact ⟨rfl, rfl⟩
end Go.Proofs.Ytighfhdkgfgcmaa.A
