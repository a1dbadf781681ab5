/- PollSoon's walk where the limits may be. -/
import Derived.Test.YtnilihfhajjmhaaD
namespace Go.Proofs.Ytnilihfhajjmhaa.A
open Go.RowKit Go.Proofs.Ytnilihfhajjmhaa.K
set_option linter.unusedVariables false
set_option linter.unusedSimpArgs false

set_option maxRecDepth 100000 in
set_option maxHeartbeats 1000000 in
theorem soon_ok (P B : Int) (A : Option Addr) (n c : Nat) (zs : List Int) (w : World) (p1 : 1 ≤ P) (p2 : P ≤ 1000) (b1 : 1 ≤ B) (b2 : B ≤ 20000) (hI : Ints w .u16 A n zs) :
    Calls Try.prog 3 #[.int .i64 P, .int .i64 B, .slice A n c] w fun e w' => e = .returned (.bool true) ∧ Frm No w w' := by
  have hn9 : n ≤ 9223372036854775807 := hI.2.1
  go_enter Try.func3, Try.ntmps3
  go_wp2_with (first | (go_at_call 6; refine (new_ok P B _ p1 p2 b1 b2).mono ?_; rintro e w1 ⟨rfl, q1, f1⟩))
  go_loopw [9, 10, 11] (fun vn va vi wr => ∃ (N a : Int) (k : Nat), vn = .int .i64 N ∧ va = .int .i64 a ∧ vi = .int .i64 k ∧ k ≤ n ∧ k ≤ 300 ∧ 0 ≤ N ∧ N < P ∧ 0 ≤ a ∧ a < B ∧ IsP wr w.heap.size P B N a false ∧ Frm No w wr)
    (fun _ _ vi _ => 300 - (intOf vi).toNat)
  case atStart => exact ⟨0, 0, 0, rfl, rfl, rfl, by omega, by omega, by omega, by omega, by omega, by omega, q1, f1⟩
  case round =>
    obtain ⟨N, a, k, rfl, rfl, rfl, hk, hk3, hN, hNP, ha, haB, hq, hf⟩ := hrel
    by_cases hlt : k < n
    · by_cases hlt3 : k < 300
      · obtain ⟨ad, rfl, hb, hc, hz⟩ := hI.at_ hlt
        have hcell : wr.cell? (ad.add k) = some (.int .u16 (zs.getD k 0)) := by
          rw [← hc]; exact World.cell?_of_block (hf.block _ (by rw [block_add]; exact hb) (fun h => h))
        generalize hzk : zs.getD k 0 = z at *
        have HZ := Lib.hid hzk
        clear hzk hc
        simp only [Lit.wf, Bool.and_eq_true, decide_eq_true_eq] at hz
        obtain ⟨hz0, hz1⟩ := hz
        have hz0' : 0 ≤ z := hz0
        have hz1' : z ≤ 65535 := hz1
        clear hz0 hz1
        have hk0 : 0 ≤ z % 4001 := by omega
        have hk4 : z % 4001 ≤ 4000 := by omega
        go_wp2_with fail
        refine (sent_ok _ w.heap.size P B N a _ false hq (by omega) (by omega) (by omega) (by omega) (by omega) (by omega) (by omega)).mono ?_
        rintro e w2 ⟨rfl, q2, f2⟩
        have hg2 := hf.thenG f2 (.inr (Nat.le_refl _))
        by_cases hy : P ≤ N + 1 ∨ B ≤ a + z % 4001
        · go_wp2_with fail
          refine (ask_yes _ w.heap.size P B _ _ false false false q2 (by omega) (by simp; exact hy)).mono ?_
          rintro e w3 ⟨rfl, q3, f3⟩
          have hg3 := hg2.thenG f3 (.inr (Nat.le_refl _))
          have Y := Lib.hid hy
          clear hy
          by_cases hy1 : P ≤ N + 1
          · go_wp2_with fail
            refine (ask_no _ w.heap.size P B _ _ q3 (by omega) (by omega) (by omega)).mono ?_
            rintro e w4 ⟨rfl, q4, f4⟩
            go_wp2_with fail
            go_roundw
            case rel => exact ⟨0, 0, k + 1, rfl, rfl, by go_num, by omega, by omega, by omega, by omega, by omega, by omega, q4, hg3.thenN f4⟩
            case measure => simp [intOf]; omega
          · have hy2 : B ≤ a + z % 4001 := by have := Y.out; omega
            go_wp2_with fail
            refine (ask_no _ w.heap.size P B _ _ q3 (by omega) (by omega) (by omega)).mono ?_
            rintro e w4 ⟨rfl, q4, f4⟩
            go_wp2_with fail
            go_roundw
            case rel => exact ⟨0, 0, k + 1, rfl, rfl, by go_num, by omega, by omega, by omega, by omega, by omega, by omega, q4, hg3.thenN f4⟩
            case measure => simp [intOf]; omega
        · have hy1 : N + 1 < P := by omega
          have hy2 : a + z % 4001 < B := by omega
          clear hy
          go_wp2_with fail
          refine (ask_no _ w.heap.size P B _ _ q2 (by omega) (by omega) (by omega)).mono ?_
          rintro e w3 ⟨rfl, q3, f3⟩
          have hg3 := hg2.thenN f3
          go_wp2_with fail
          refine (ask_no _ w.heap.size P B _ _ q3 (by omega) (by omega) (by omega)).mono ?_
          rintro e w4 ⟨rfl, q4, f4⟩
          go_wp2_with fail
          go_roundw
          case rel => exact ⟨N + 1, a + z % 4001, k + 1, rfl, rfl, by go_num, by omega, by omega, by omega, by omega, by omega, by omega, q4, hg3.thenN f4⟩
          case measure => simp [intOf]; omega
      · go_wp2_with fail
        refine (alive_yes _).mono ?_
        rintro e w2 ⟨rfl, f2⟩
        go_wp2_with fail
        go_ret
        exact ⟨rfl, hf.thenN f2⟩
    · go_wp2_with fail
      refine (alive_yes _).mono ?_
      rintro e w2 ⟨rfl, f2⟩
      go_wp2_with fail
      go_ret
      exact ⟨rfl, hf.thenN f2⟩
end Go.Proofs.Ytnilihfhajjmhaa.A
