/- What each method of txwin does, on its cells. -/
import Derived.Test.YthefmklblfjfeaaM
import Derived.BigQuiet
import Derived.Lib.Hide
namespace Go.Proofs.Ythefmklblfjfeaa.A
open Go.RowKit Go.Proofs.Ythefmklblfjfeaa.K Go.Proofs.Ythefmklblfjfeaa.N
set_option linter.unusedVariables false
set_option linter.unusedSimpArgs false

def winA (b z a s : Int) (mb : Nat) : Array Value := #[.int .i64 b, .int .i64 z, .int .i64 a, .int .i64 s, .map (some mb)]
def zeroA : Array Value := #[.int .i64 0, .int .i64 0, .int .i64 0, .int .i64 0, .map none]

theorem made_ok (w : World) (g : Nat) (b z a s : Int) (mb : Nat) (h : Blk w g (winA b z a s mb) 53) : Calls Try.prog 27 #[.pointer (some ⟨g, 0, none⟩)] w fun e w' => e = .returned (.bool true) ∧ w = w' := by
  have c4 : w.cell? ⟨g, 4, none⟩ = some (.map (some mb)) := h.cell 4
  have e4 := neq_some w mb
  go_enter Try.func27, Try.ntmps27
  go_wp2
  go_ret
  exact ⟨rfl, rfl⟩
theorem made_zero (w : World) (g : Nat) (h : Blk w g zeroA 53) : Calls Try.prog 27 #[.pointer (some ⟨g, 0, none⟩)] w fun e w' => e = .returned (.bool false) ∧ w = w' := by
  have c4 : w.cell? ⟨g, 4, none⟩ = some (.map none) := h.cell 4
  have e4 := neq_none w
  go_enter Try.func27, Try.ntmps27
  go_wp2
  go_ret
  exact ⟨rfl, rfl⟩
theorem made_nil (w : World) : Calls Try.prog 27 #[.pointer none] w fun e w' => e = .returned (.bool false) ∧ w = w' := by
  go_enter Try.func27, Try.ntmps27
  go_wp2
  go_ret
  exact ⟨rfl, rfl⟩

theorem ends_ok (w : World) (g : Nat) (b z a s : Int) (mb : Nat) (h : Blk w g (winA b z a s mb) 53) : Calls Try.prog 10 #[.pointer (some ⟨g, 0, none⟩)] w fun e w' => e = .returned (.tuple #[.int .i64 a, .int .i64 s]) ∧ Frm No w w' := by
  have c2 : w.cell? ⟨g, 2, none⟩ = some (.int .i64 a) := h.cell 2
  have c3 : w.cell? ⟨g, 3, none⟩ = some (.int .i64 s) := h.cell 3
  go_enter Try.func10, Try.ntmps10
  go_wp2_with (go_at_call 27; refine (made_ok _ g _ _ _ _ _ h).mono ?_; rintro e w' ⟨rfl, rfl⟩)
  go_quiet (fail)
  go_wp2_with fail
  go_ret2
  exact ⟨rfl, (Frm.refl _ _).drewN _⟩
theorem ends_zero (w : World) (g : Nat) (h : Blk w g zeroA 53) : Calls Try.prog 10 #[.pointer (some ⟨g, 0, none⟩)] w fun e w' => e = .returned (.tuple #[.int .i64 0, .int .i64 0]) ∧ w = w' := by
  go_enter Try.func10, Try.ntmps10
  go_wp2_with (go_at_call 27; refine (made_zero _ g h).mono ?_; rintro e w' ⟨rfl, rfl⟩)
  go_ret2
  exact ⟨rfl, rfl⟩

/-- How far q is from a; -1: it is no number. -/
def fv (b a q : Int) : Int := if 0 ≤ q ∧ q < sz b then (q - a) % sz b else -1

theorem far_nil (w : World) (q : Int) : Calls Try.prog 23 #[.pointer none, .int .i64 q] w fun e w' => e = .returned (.int .i64 0) ∧ w = w' := by
  go_enter Try.func23, Try.ntmps23
  go_wp2_with (go_at_call 27; refine (made_nil _).mono ?_; rintro e w' ⟨rfl, rfl⟩)
  go_ret
  exact ⟨rfl, rfl⟩

set_option maxHeartbeats 1000000 in
theorem far_win (w : World) (g : Nat) (b z a s : Int) (mb : Nat) (q : Int) (h : Blk w g (winA b z a s mb) 53) (hb : 1 ≤ b ∧ b ≤ 16) (ha : 0 ≤ a ∧ a < sz b) :
    Calls Try.prog 23 #[.pointer (some ⟨g, 0, none⟩), .int .i64 q] w fun e w' => e = .returned (.int .i64 (fv b a q)) ∧ Frm No w w' := by
  have c0 : w.cell? ⟨g, 0, none⟩ = some (.int .i64 b) := h.cell 0
  have c2 : w.cell? ⟨g, 2, none⟩ = some (.int .i64 a) := h.cell 2
  by_cases hq : 0 ≤ q ∧ q < sz b
  · have e1 : fv b a q = (q - a) % sz b := by unfold fv; rw [if_pos hq]
    have hE : farE b a q = 0 := by unfold farE; rw [askS_two, if_pos hb, if_pos ⟨ha, hq⟩]
    have hN : farN b a q = (q - a) % sz b := by unfold farN; rw [if_pos hE]
    rw [e1]
    generalize (q - a) % sz b = r at *
    have HE := Lib.hid hE
    have HN := Lib.hid hN
    clear hE hN e1 hq ha
    go_enter Try.func23, Try.ntmps23
    go_wp2_with (go_at_call 27; refine (made_ok _ g _ _ _ _ _ h).mono ?_; rintro e w' ⟨rfl, rfl⟩)
    go_region_held3 (fun w' => w'.cell? ⟨g, 0, none⟩ = some (.int .i64 b) ∧ w'.cell? ⟨g, 2, none⟩ = some (.int .i64 a))
      (first | go_keep)
      (first | (go_at_call 33; refine (far_is b a q 0 r _ HE.out HN.out).mono ?_; rintro e w1 ⟨rfl, f1⟩; have h1 := f1.blk (by exact h) (fun h => h); have k0 : w1.cell? ⟨g, 0, none⟩ = some (.int .i64 b) := h1.cell 0; have k2 : w1.cell? ⟨g, 2, none⟩ = some (.int .i64 a) := h1.cell 2))
    go_wp2_with fail
    go_ret
    exact ⟨rfl, (Frm.refl _ _).drew.trans f1⟩
  · have e1 : fv b a q = -1 := by unfold fv; rw [if_neg hq]
    have hE : farE b a q = 1 := by unfold farE; rw [askS_two, if_pos hb, if_neg (fun h => hq h.2)]
    have hN : farN b a q = 0 := by unfold farN; rw [if_neg (by rw [hE]; decide)]
    rw [e1]
    have HE := Lib.hid hE
    have HN := Lib.hid hN
    clear hE hN e1 hq ha
    go_enter Try.func23, Try.ntmps23
    go_wp2_with (go_at_call 27; refine (made_ok _ g _ _ _ _ _ h).mono ?_; rintro e w' ⟨rfl, rfl⟩)
    go_region_held3 (fun w' => w'.cell? ⟨g, 0, none⟩ = some (.int .i64 b) ∧ w'.cell? ⟨g, 2, none⟩ = some (.int .i64 a))
      (first | go_keep)
      (first | (go_at_call 33; refine (far_is b a q 1 0 _ HE.out HN.out).mono ?_; rintro e w1 ⟨rfl, f1⟩; have h1 := f1.blk (by exact h) (fun h => h); have k0 : w1.cell? ⟨g, 0, none⟩ = some (.int .i64 b) := h1.cell 0; have k2 : w1.cell? ⟨g, 2, none⟩ = some (.int .i64 a) := h1.cell 2))
    go_wp2_with fail
    go_ret
    exact ⟨rfl, (Frm.refl _ _).drew.trans f1⟩

theorem fv_le (b a q : Int) : -1 ≤ fv b a q ∧ fv b a q ≤ 65536 := by
  unfold fv
  split
  · have := sz_le b
    rename_i h
    have h0 := Int.emod_nonneg (q - a) (show sz b ≠ 0 by omega)
    have h1 := Int.emod_lt_of_pos (q - a) (show 0 < sz b by omega)
    omega
  · omega

set_option maxHeartbeats 1000000 in
theorem stalled_ok (w : World) (g : Nat) (b z a s : Int) (mb : Nat) (h : Blk w g (winA b z a s mb) 53) (hb : 1 ≤ b ∧ b ≤ 16) (ha : 0 ≤ a ∧ a < sz b) :
    Calls Try.prog 12 #[.pointer (some ⟨g, 0, none⟩)] w fun e w' => e = .returned (.bool (decide (z ≤ fv b a s))) ∧ Frm No w w' := by
  have c1 : w.cell? ⟨g, 1, none⟩ = some (.int .i64 z) := h.cell 1
  have c3 : w.cell? ⟨g, 3, none⟩ = some (.int .i64 s) := h.cell 3
  go_enter Try.func12, Try.ntmps12
  go_wp2_with fail
  go_region_held3 (fun w' => w'.cell? ⟨g, 1, none⟩ = some (.int .i64 z) ∧ w'.cell? ⟨g, 3, none⟩ = some (.int .i64 s))
    (first | go_keep)
    (first
      | (go_at_call 27; refine (made_ok _ g b z a s mb ?_).mono ?_; exact h; rintro e w1 ⟨rfl, rfl⟩)
      | (go_at_call 23; refine (far_win _ g b z a s mb s ?_ hb ha).mono ?_; exact h; rintro e w1 ⟨rfl, f1⟩; have h1 := f1.blk (by exact h) (fun h => h); have k1 : w1.cell? ⟨g, 1, none⟩ = some (.int .i64 z) := h1.cell 1; have k3 : w1.cell? ⟨g, 3, none⟩ = some (.int .i64 s) := h1.cell 3))
  all_goals go_wp2_with fail
  all_goals go_ret
  all_goals exact ⟨rfl, (Frm.refl _ _).drew.trans f1⟩
theorem stalled_zero (w : World) (g : Nat) (h : Blk w g zeroA 53) : Calls Try.prog 12 #[.pointer (some ⟨g, 0, none⟩)] w fun e w' => e = .returned (.bool false) ∧ Frm No w w' := by
  have c1 : w.cell? ⟨g, 1, none⟩ = some (.int .i64 0) := h.cell 1
  go_enter Try.func12, Try.ntmps12
  go_wp2_with fail
  refine wp_region_held_drew (S := fun w' => w'.cell? ⟨g, 1, none⟩ = some (.int .i64 0)) (by kernel_rfl) (by exact c1) (fun hHeld => ?_)
  refine wpAnyH_take (i := 0) (v := ?rhv0) rfl (by kernel_rfl) (by kernel_rfl) (by kernel_rfl) (fun _ _ _ h => h) (Or.inl ⟨by rfl, ?rhy0⟩) (by assumption) ?rhr0
  case rhy0 => (intro w hSw; (try dsimp only at hSw); go_simp; try with_reducible rfl)
  try simp only [Act.put, List.setIfInBounds_toArray, List.set_cons_zero, List.set_cons_succ, List.getElem_toArray, List.getElem_cons_zero, List.getElem_cons_succ]
  refine wpAnyH_ready (rs := [1]) (by kernel_rfl) (by simp) (AllReadyH.cons rfl (fun K hK => ?_) AllReadyH.nil)
  go_simp
  refine (made_zero _ g (by exact h)).mono ?_
  rintro e w1 ⟨rfl, rfl⟩
  go_wp2_with fail
  refine hK.out _ _ ?_ (fun hHeld => ?_)
  · exact c1
  clear hK K
  try simp only [Act.put, List.setIfInBounds_toArray, List.set_cons_zero, List.set_cons_succ, List.getElem_toArray, List.getElem_cons_zero, List.getElem_cons_succ]
  refine wpAnyH_take (i := 2) (v := ?rhv2) rfl (by kernel_rfl) (by kernel_rfl) (by kernel_rfl) (fun _ _ _ h => h) (Or.inl ⟨by rfl, ?rhy2⟩) (by assumption) ?rhr2
  case rhy2 => (intro w hSw; (try dsimp only at hSw); go_simp; try with_reducible rfl)
  try simp only [Act.put, List.setIfInBounds_toArray, List.set_cons_zero, List.set_cons_succ, List.getElem_toArray, List.getElem_cons_zero, List.getElem_cons_succ]
  refine wpAnyH_take (i := 3) (v := undef) rfl (by kernel_rfl) (by kernel_rfl) (by kernel_rfl) (fun _ _ _ h => h) (Or.inr ⟨by rfl, rfl⟩) (by assumption) ?_
  try simp only [Act.put, List.setIfInBounds_toArray, List.set_cons_zero, List.set_cons_succ, List.getElem_toArray, List.getElem_cons_zero, List.getElem_cons_succ]
  refine wpAnyH_take (i := 4) (v := undef) rfl (by kernel_rfl) (by kernel_rfl) (by kernel_rfl) (fun _ _ _ h => h) (Or.inr ⟨by rfl, rfl⟩) (by assumption) ?_
  try simp only [Act.put, List.setIfInBounds_toArray, List.set_cons_zero, List.set_cons_succ, List.getElem_toArray, List.getElem_cons_zero, List.getElem_cons_succ]
  refine wpAnyH_take (i := 5) (v := undef) rfl (by kernel_rfl) (by kernel_rfl) (by kernel_rfl) (fun _ _ _ h => h) (Or.inr ⟨by rfl, rfl⟩) (by assumption) ?_
  try simp only [Act.put, List.setIfInBounds_toArray, List.set_cons_zero, List.set_cons_succ, List.getElem_toArray, List.getElem_cons_zero, List.getElem_cons_succ]
  refine wpAnyH_take (i := 6) (v := undef) rfl (by kernel_rfl) (by kernel_rfl) (by kernel_rfl) (fun _ _ _ h => h) (Or.inr ⟨by rfl, rfl⟩) (by assumption) ?_
  try simp only [Act.put, List.setIfInBounds_toArray, List.set_cons_zero, List.set_cons_succ, List.getElem_toArray, List.getElem_cons_zero, List.getElem_cons_succ]
  refine wpAnyH_take (i := 7) (v := undef) rfl (by kernel_rfl) (by kernel_rfl) (by kernel_rfl) (fun _ _ _ h => h) (Or.inr ⟨by rfl, rfl⟩) (by assumption) ?_
  try simp only [Act.put, List.setIfInBounds_toArray, List.set_cons_zero, List.set_cons_succ, List.getElem_toArray, List.getElem_cons_zero, List.getElem_cons_succ]
  refine wpAnyH_take (i := 8) (v := undef) rfl (by kernel_rfl) (by kernel_rfl) (by kernel_rfl) (fun _ _ _ h => h) (Or.inr ⟨by rfl, rfl⟩) (by assumption) ?_
  try simp only [Act.put, List.setIfInBounds_toArray, List.set_cons_zero, List.set_cons_succ, List.getElem_toArray, List.getElem_cons_zero, List.getElem_cons_succ]
  refine wpAnyH_take (i := 9) (v := undef) rfl (by kernel_rfl) (by kernel_rfl) (by kernel_rfl) (fun _ _ _ h => h) (Or.inr ⟨by rfl, rfl⟩) (by assumption) ?_
  try simp only [Act.put, List.setIfInBounds_toArray, List.set_cons_zero, List.set_cons_succ, List.getElem_toArray, List.getElem_cons_zero, List.getElem_cons_succ]
  refine wpAnyH_take (i := 10) (v := undef) rfl (by kernel_rfl) (by kernel_rfl) (by kernel_rfl) (fun _ _ _ h => h) (Or.inr ⟨by rfl, rfl⟩) (by assumption) ?_
  try simp only [Act.put, List.setIfInBounds_toArray, List.set_cons_zero, List.set_cons_succ, List.getElem_toArray, List.getElem_cons_zero, List.getElem_cons_succ]
  refine wpAnyH_take (i := 11) (v := undef) rfl (by kernel_rfl) (by kernel_rfl) (by kernel_rfl) (fun _ _ _ h => h) (Or.inr ⟨by rfl, rfl⟩) (by assumption) ?_
  try simp only [Act.put, List.setIfInBounds_toArray, List.set_cons_zero, List.set_cons_succ, List.getElem_toArray, List.getElem_cons_zero, List.getElem_cons_succ]
  refine wpAnyH_take (i := 12) (v := undef) rfl (by kernel_rfl) (by kernel_rfl) (by kernel_rfl) (fun _ _ _ h => h) (Or.inr ⟨by rfl, rfl⟩) (by assumption) ?_
  try simp only [Act.put, List.setIfInBounds_toArray, List.set_cons_zero, List.set_cons_succ, List.getElem_toArray, List.getElem_cons_zero, List.getElem_cons_succ]
  refine wpAnyH_take (i := 13) (v := undef) rfl (by kernel_rfl) (by kernel_rfl) (by kernel_rfl) (fun _ _ _ h => h) (Or.inr ⟨by rfl, rfl⟩) (by assumption) ?_
  try simp only [Act.put, List.setIfInBounds_toArray, List.set_cons_zero, List.set_cons_succ, List.getElem_toArray, List.getElem_cons_zero, List.getElem_cons_succ]
  refine wpAnyH_take (i := 14) (v := ?rhv14) rfl (by kernel_rfl) (by kernel_rfl) (by kernel_rfl) (fun _ _ _ h => h) (Or.inl ⟨by rfl, ?rhy14⟩) (by assumption) ?rhr14
  case rhy14 => (intro w hSw; (try dsimp only at hSw); go_simp; try with_reducible rfl)
  try simp only [Act.put, List.setIfInBounds_toArray, List.set_cons_zero, List.set_cons_succ, List.getElem_toArray, List.getElem_cons_zero, List.getElem_cons_succ]
  refine wpAnyH_take (i := 15) (v := ?rhv15) rfl (by kernel_rfl) (by kernel_rfl) (by kernel_rfl) (fun _ _ _ h => h) (Or.inl ⟨by rfl, ?rhy15⟩) (by assumption) ?rhr15
  case rhy15 => (intro w hSw; (try dsimp only at hSw); go_simp; try with_reducible rfl)
  try simp only [Act.put, List.setIfInBounds_toArray, List.set_cons_zero, List.set_cons_succ, List.getElem_toArray, List.getElem_cons_zero, List.getElem_cons_succ]
  refine wpAnyH_done (by kernel_rfl) ?_ _
  go_wp2_with fail
  go_ret
  exact ⟨rfl, (Frm.refl _ _).drew⟩
end Go.Proofs.Ythefmklblfjfeaa.A
