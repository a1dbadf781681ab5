/- New, Served, Add. -/
import Derived.Test.YtiifepajnhdfjaaI
namespace Go.Proofs.Ytiifepajnhdfjaa.A
open Go.RowKit Go.Proofs.Ytiifepajnhdfjaa.K
set_option linter.unusedVariables false
set_option linter.unusedSimpArgs false

theorem new_ok (w : World) : Calls Try.prog 6 #[] w fun e w' => e = .returned (.pointer (some ⟨w.heap.size, 0, none⟩)) ∧ (∀ B, IsS w' B w.heap.size []) ∧ Frm No w w' := by
  have hb : Blk (w.alloc (.cells #[.bool true, .slice none 0 0] 57)) w.heap.size #[.bool true, .slice none 0 0] 57 := Blk.new _ _ _
  have F := (Frm.refl No w).alloc (.cells #[.bool true, .slice none 0 0] 57)
  go_enter Try.func6, Try.ntmps6
  go_wp2_with fail
  go_ret
  exact ⟨rfl, fun B => ⟨by simp, _, hb, World.ownsRow_nil _ _ _ _⟩, F⟩

/-- What a user was served; nobody: nought. -/
def svV (U : List US) (x : Int) : Int := if fi U x < U.length then (U.getD (fi U x) u0).sv else 0
set_option maxRecDepth 100000 in
set_option maxHeartbeats 2000000 in
theorem served_any (w : World) (B g : Nat) (U : List US) (x : Int) (h : IsS w B g U) : Calls Try.prog 10 #[.pointer (some ⟨g, 0, none⟩), .int .i64 x] w fun e w' => e = .returned (.int .i64 (svV U x)) ∧ Frm No w w' := by
  by_cases hf : fi U x < U.length
  · have hv : svV U x = (U.getD (fi U x) u0).sv := by unfold svV; rw [if_pos hf]
    obtain ⟨f, hfe⟩ : ∃ f, fi U x = f := ⟨_, rfl⟩
    have h0 := h
    obtain ⟨h16, v, hb, ho⟩ := h
    obtain ⟨A, c, rfl, hr⟩ := rdU_of ho
    have k1 : w.cell? ⟨g, 1, none⟩ = some (.slice A U.length c) := hb.cell 1
    obtain ⟨ad, rfl, -, -, -, ks⟩ := hr (fi U x) hf
    rw [hfe] at hv hf ks
    rw [← hv] at ks
    have HF := Lib.hid (And.intro hfe hf)
    obtain ⟨n, hn⟩ : ∃ n, U.length = n := ⟨_, rfl⟩
    rw [hn] at k1 hf
    obtain ⟨r, hre⟩ : ∃ r, svV U x = r := ⟨_, rfl⟩
    rw [hre] at ks
    rw [hre]
    have f0 : (0 : Int) ≤ (f : Int) := Int.natCast_nonneg _
    have f1 : (f : Int) < (n : Int) := by omega
    clear hfe hn hb ho hr hv hre
    go_enter Try.func10, Try.ntmps10
    go_wp2_with fail
    refine (find_is _ B g U x f h0 HF.out.1 HF.out.2).mono ?_
    rintro e w1 ⟨rfl, rfl⟩
    go_wp2_with fail
    go_quiet ((go_at_call 17; exact Calls.quiet_of_same (find_is _ B g U x f (by exact h0) HF.out.1 HF.out.2)))
    go_wp2_with fail
    go_ret
    exact ⟨rfl, (Frm.refl No _).drewN _⟩
  · have hv : svV U x = 0 := by unfold svV; rw [if_neg hf]
    have hm : fiV U x = -1 := by unfold fiV; rw [if_neg hf]
    have hc := find_any w B g U x h
    rw [hm] at hc
    rw [hv]
    clear hf hv hm
    go_enter Try.func10, Try.ntmps10
    go_wp2_with fail
    refine hc.mono ?_
    rintro e w1 ⟨rfl, rfl⟩
    go_wp2_with fail
    go_ret
    exact ⟨rfl, Frm.refl No _⟩
end Go.Proofs.Ytiifepajnhdfjaa.A
