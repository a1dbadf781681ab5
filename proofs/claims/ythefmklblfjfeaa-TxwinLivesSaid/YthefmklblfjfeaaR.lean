/- New, Next, Reset of txwin. -/
import Derived.Test.YthefmklblfjfeaaQ
namespace Go.Proofs.Ythefmklblfjfeaa.A
open Go.RowKit Go.Proofs.Ythefmklblfjfeaa.K Go.Proofs.Ythefmklblfjfeaa.N
set_option linter.unusedVariables false
set_option linter.unusedSimpArgs false

theorem go_is (b x y E N : Int) (w : World) (hE : goE b x y = E) (hN : goN b x y = N) : Calls Try.prog 28 #[.agg #[.int .i64 b], .int .i64 x, .int .i64 y] w fun e w' => e = .returned (.tuple #[.int .i64 N, .int .i64 E]) ∧ Frm No w w' := hE ▸ hN ▸ go_any b x y w
theorem go_one {b x : Int} (hb : 1 ≤ b ∧ b ≤ 16) (hx : 0 ≤ x ∧ x < sz b) : goE b x 1 = 0 ∧ goN b x 1 = (x + 1) % sz b := by
  have h1 : askS b [x] = 0 := by rw [askS_one, if_pos hb, if_pos hx]
  have hE : goE b x 1 = 0 := by unfold goE; rw [if_pos h1, if_neg (by omega)]
  exact ⟨hE, by unfold goN; rw [if_pos hE]⟩
theorem stalled_is (w : World) (g : Nat) (b z a s : Int) (mb : Nat) (t : Bool) (h : Blk w g (winA b z a s mb) 53) (hb : 1 ≤ b ∧ b ≤ 16) (ha : 0 ≤ a ∧ a < sz b) (ht : decide (z ≤ fv b a s) = t) :
    Calls Try.prog 12 #[.pointer (some ⟨g, 0, none⟩)] w fun e w' => e = .returned (.bool t) ∧ Frm No w w' := ht ▸ stalled_ok w g b z a s mb h hb ha

theorem next_nil (w : World) : Calls Try.prog 8 #[.pointer none] w fun e w' => e = .returned (.tuple #[.int .i64 0, .int .i64 6]) ∧ w = w' := by
  go_enter Try.func8, Try.ntmps8
  go_wp2_with (go_at_call 27; refine (made_nil _).mono ?_; rintro e w' ⟨rfl, rfl⟩)
  go_ret2
  exact ⟨rfl, rfl⟩
theorem next_zero (w : World) (g : Nat) (h : Blk w g zeroA 53) : Calls Try.prog 8 #[.pointer (some ⟨g, 0, none⟩)] w fun e w' => e = .returned (.tuple #[.int .i64 0, .int .i64 6]) ∧ w = w' := by
  go_enter Try.func8, Try.ntmps8
  go_wp2_with (go_at_call 27; refine (made_zero _ g h).mono ?_; rintro e w' ⟨rfl, rfl⟩)
  go_ret2
  exact ⟨rfl, rfl⟩
theorem next_full (w : World) (g : Nat) (b z a s : Int) (mb : Nat) (h : Blk w g (winA b z a s mb) 53) (hb : 1 ≤ b ∧ b ≤ 16) (ha : 0 ≤ a ∧ a < sz b) (ht : z ≤ fv b a s) :
    Calls Try.prog 8 #[.pointer (some ⟨g, 0, none⟩)] w fun e w' => e = .returned (.tuple #[.int .i64 0, .int .i64 11]) ∧ Frm No w w' := by
  go_enter Try.func8, Try.ntmps8
  go_wp2_with (first | (go_at_call 27; refine (made_ok _ g _ _ _ _ _ h).mono ?_; rintro e w' ⟨rfl, rfl⟩) | (go_at_call 12; refine (stalled_is _ g b z a s mb true h hb ha (decide_eq_true ht)).mono ?_; rintro e w1 ⟨rfl, f1⟩))
  go_ret2
  exact ⟨rfl, f1⟩
theorem next_ok (w : World) (g : Nat) (b z a s : Int) (mb : Nat) (h : Blk w g (winA b z a s mb) 53) (hb : 1 ≤ b ∧ b ≤ 16) (ha : 0 ≤ a ∧ a < sz b) (hs : 0 ≤ s ∧ s < sz b) (ht : ¬ z ≤ fv b a s) :
    Calls Try.prog 8 #[.pointer (some ⟨g, 0, none⟩)] w fun e w' => e = .returned (.tuple #[.int .i64 s, .int .i64 0]) ∧ Blk w' g (winA b z a ((s + 1) % sz b) mb) 53 ∧ Frm (fun x => x = g) w w' := by
  obtain ⟨hE, hN⟩ := go_one hb hs
  generalize (s + 1) % sz b = s' at *
  go_enter Try.func8, Try.ntmps8
  go_wp2_with fail
  refine (made_ok _ g _ _ _ _ _ h).mono ?_
  rintro e w' ⟨rfl, rfl⟩
  go_wp2_with fail
  refine (stalled_is _ g b z a s mb false h hb ha (decide_eq_false (by omega))).mono ?_
  rintro e w1 ⟨rfl, f1⟩
  have h1 := f1.blk h (fun h => h)
  have c0 : w1.cell? ⟨g, 0, none⟩ = some (.int .i64 b) := h1.cell 0
  have c3 : w1.cell? ⟨g, 3, none⟩ = some (.int .i64 s) := h1.cell 3
  go_wp2_with fail
  refine (go_is b s 1 0 s' _ hE hN).mono ?_
  rintro e w2 ⟨rfl, f2⟩
  have h2 := f2.blk h1 (fun h => h)
  have d3 : w2.cell? ⟨g, 3, none⟩ = some (.int .i64 s) := h2.cell 3
  have e3 := h2.free 3
  have fin : Blk (w2.setCell ⟨g, 3, none⟩ (.int .i64 s')) g (winA b z a s' mb) 53 := h2.set 3 _
  have F := ((f1.trans f2).mono (S' := fun x => x = g) (fun _ h => h.elim)).self 3 (.int .i64 s')
  go_wp2_with fail
  go_ret2
  exact ⟨rfl, fin, F⟩

theorem reset_nil (w : World) : Calls Try.prog 16 #[.pointer none] w fun e w' => e = .returned (.tuple #[]) ∧ w = w' := by
  go_enter Try.func16, Try.ntmps16
  go_wp2_with (go_at_call 27; refine (made_nil _).mono ?_; rintro e w' ⟨rfl, rfl⟩)
  go_end0
  exact ⟨rfl, rfl⟩
set_option maxHeartbeats 2000000 in
theorem reset_ok (w : World) (g : Nat) (b z a s : Int) (mb : Nat) (h : Blk w g (winA b z a s mb) 53) :
    Calls Try.prog 16 #[.pointer (some ⟨g, 0, none⟩)] w fun e w' => e = .returned (.tuple #[]) ∧ ∃ mb', w.heap.size ≤ mb' ∧ Blk w' g (winA b z 0 0 mb') 53 ∧ MapB w' mb' 0 (fun _ => false) ∧ Frm (fun x => x = g) w w' := by
  have hmm := @run_makeMap Try.prog
  have hlt := h.lt
  have c2 : w.cell? ⟨g, 2, none⟩ = some (.int .i64 a) := h.cell 2
  have c3 : w.cell? ⟨g, 3, none⟩ = some (.int .i64 s) := h.cell 3
  have c4 : w.cell? ⟨g, 4, none⟩ = some (.map (some mb)) := h.cell 4
  have e2 := h.free 2
  have e3 := h.free 3
  have e4 := h.free 4
  have fin := (((h.set 2 (.int .i64 0)).set 3 (.int .i64 0)).set 4 (.map (some w.heap.size))).alloc (.map #[] 0)
  have hz : (((winA b z a s mb).setIfInBounds 2 (.int .i64 0)).setIfInBounds 3 (.int .i64 0)).setIfInBounds 4 (.map (some w.heap.size)) = winA b z 0 0 w.heap.size := by simp [winA]
  rw [hz] at fin
  have m2 := MapB.made (((w.setCell ⟨g, 2, none⟩ (.int .i64 0)).setCell ⟨g, 3, none⟩ (.int .i64 0)).setCell ⟨g, 4, none⟩ (.map (some w.heap.size)))
  rw [World.size_setCell, World.size_setCell, World.size_setCell] at m2
  have F := ((((Frm.refl (fun x => x = g) w).self 2 (.int .i64 0)).self 3 (.int .i64 0)).self 4 (.map (some w.heap.size))).alloc (.map #[] 0)
  have FIN := Lib.hid fin
  have M := Lib.hid m2
  have FF := Lib.hid F
  clear fin m2 F hz
  go_enter Try.func16, Try.ntmps16
  go_wp2_with fail
  refine (made_ok _ g _ _ _ _ _ h).mono ?_
  rintro e w' ⟨rfl, rfl⟩
  go_wp2_with fail
  go_end0
  exact ⟨rfl, w.heap.size, Nat.le_refl _, FIN.out, M.out, FF.out⟩
end Go.Proofs.Ythefmklblfjfeaa.A
