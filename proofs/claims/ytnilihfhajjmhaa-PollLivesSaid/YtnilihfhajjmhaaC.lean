/- The fixed calls of layer 21 come out as they must. -/
import Derived.Test.YtnilihfhajjmhaaB
namespace Go.Proofs.Ytnilihfhajjmhaa.A
open Go.RowKit Go.Proofs.Ytnilihfhajjmhaa.K
set_option linter.unusedVariables false
set_option linter.unusedSimpArgs false

set_option maxHeartbeats 1000000 in
theorem alive_yes (w : World) : Calls Try.prog 7 #[] w fun e w' => e = .returned (.bool true) ∧ Frm No w w' := by
  go_enter Try.func7, Try.ntmps7
  go_wp2_with fail
  refine (new_ok 2 100 _ (by omega) (by omega) (by omega) (by omega)).mono ?_
  rintro e w1 ⟨rfl, p1, f1⟩
  go_wp2_with fail
  refine (sent_ok _ w.heap.size 2 100 0 0 60 false p1 (by omega) (by omega) (by omega) (by omega) (by omega) (by omega) (by omega)).mono ?_
  rintro e w2 ⟨rfl, p2, f2⟩
  go_wp2_with fail
  refine (ask_no _ w.heap.size 2 100 (0 + 1) (0 + 60) p2 (by omega) (by omega) (by omega)).mono ?_
  rintro e w3 ⟨rfl, p3, f3⟩
  go_wp2_with fail
  refine (sent_ok _ w.heap.size 2 100 _ _ 30 false p3 (by omega) (by omega) (by omega) (by omega) (by omega) (by omega) (by omega)).mono ?_
  rintro e w4 ⟨rfl, p4, f4⟩
  go_wp2_with fail
  refine (ask_yes _ w.heap.size 2 100 _ _ false false false p4 (by omega) (by omega)).mono ?_
  rintro e w5 ⟨rfl, p5, f5⟩
  go_wp2_with fail
  refine (ask_no _ w.heap.size 2 100 _ _ p5 (by omega) (by omega) (by omega)).mono ?_
  rintro e w6 ⟨rfl, p6, f6⟩
  go_wp2_with fail
  refine (want_ok _ w.heap.size 2 100 _ _ _ p6 (by omega)).mono ?_
  rintro e w7 ⟨rfl, p7, f7⟩
  go_wp2_with fail
  refine (ask_yes _ w.heap.size 2 100 _ _ _ false false p7 (by omega) (by simp)).mono ?_
  rintro e w8 ⟨rfl, p8, f8⟩
  go_wp2_with fail
  refine (new_bad 0 5 _ (by omega)).mono ?_
  rintro e w9 ⟨rfl, rfl⟩
  go_wp2_with fail
  refine (ask_yes _ w.heap.size 2 100 _ _ _ true false p8 (by omega) (by simp)).mono ?_
  rintro e w10 ⟨rfl, p10, f10⟩
  go_wp2_with fail
  go_ret
  exact ⟨rfl, ((((((((f1.thenG f2 (.inr (Nat.le_refl _))).thenN f3).thenG f4 (.inr (Nat.le_refl _))).thenG f5 (.inr (Nat.le_refl _))).thenN f6).thenG f7 (.inr (Nat.le_refl _))).thenG f8 (.inr (Nat.le_refl _))).thenG f10 (.inr (Nat.le_refl _)))⟩

end Go.Proofs.Ytnilihfhajjmhaa.A
