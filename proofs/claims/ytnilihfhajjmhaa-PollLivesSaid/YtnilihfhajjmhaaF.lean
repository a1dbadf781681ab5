/- PollEmpty's walk: where all is empty, or stalled, or it was told to, a poller asks. -/
import Derived.Test.YtnilihfhajjmhaaE
namespace Go.Proofs.Ytnilihfhajjmhaa.A
open Go.RowKit Go.Proofs.Ytnilihfhajjmhaa.K
set_option linter.unusedVariables false
set_option linter.unusedSimpArgs false

set_option maxHeartbeats 1000000 in
theorem empty_bad (a0 a1 : Int) (A : Option Addr) (n c : Nat) (d : Int) (w : World) (h : a0 < 1 ∨ 1000 < a0 ∨ a1 < 1 ∨ 20000 < a1) :
    Calls Try.prog 4 #[.int .i64 a0, .int .i64 a1, .slice A n c, .int .u8 d] w fun e w' => e = .returned (.bool true) ∧ Frm No w w' := by
  have H := Lib.hid h
  clear h
  go_enter Try.func4, Try.ntmps4
  go_wp2_with (first | (go_at_call 6; refine (new_bad a0 a1 _ H.out).mono ?_; rintro e w' ⟨rfl, rfl⟩) | (go_at_call 7; refine (alive_yes _).mono ?_; rintro e w' ⟨rfl, f1⟩))
  go_ret
  exact ⟨rfl, f1⟩

set_option maxRecDepth 100000 in
set_option maxHeartbeats 4000000 in
theorem empty_ok (P B : Int) (A : Option Addr) (n c : Nat) (zs : List Int) (d : Int) (w : World) (p1 : 1 ≤ P) (p2 : P ≤ 1000) (b1 : 1 ≤ B) (b2 : B ≤ 20000) (hI : Ints w .u16 A n zs) (hd : (Lit.int .u8 d).wf = true) :
    Calls Try.prog 4 #[.int .i64 P, .int .i64 B, .slice A n c, .int .u8 d] w fun e w' => e = .returned (.bool true) ∧ Frm No w w' := by
  have hn9 : n ≤ 9223372036854775807 := hI.2.1
  simp only [Lit.wf, Bool.and_eq_true, decide_eq_true_eq] at hd
  obtain ⟨d0, d1⟩ := hd
  have d0' : 0 ≤ d := d0
  have d1' : d ≤ 255 := d1
  have hbits : bits .and .u8 d 3 = d % 4 := by
    rw [u8_and d 3 d0' (by omega) (by omega) (by omega), show (3 : Int).toNat = 3 from rfl, nat_mask2]; omega
  have hcase : bits .and .u8 d 3 = 0 ∨ bits .and .u8 d 3 = 1 ∨ bits .and .u8 d 3 = 2 ∨ bits .and .u8 d 3 = 3 := by omega
  clear hbits d0 d1 d0' d1'
  have HC := Lib.hid hcase
  clear hcase
  go_enter Try.func4, Try.ntmps4
  go_wp2_with (first | (go_at_call 6; refine (new_ok P B _ p1 p2 b1 b2).mono ?_; rintro e w1 ⟨rfl, q1, f1⟩))
  go_loopw [11] (fun vi wr => ∃ (k : Nat) (N a : Int), vi = .int .i64 k ∧ k ≤ n ∧ k ≤ 100 ∧ 0 ≤ N ∧ N ≤ k ∧ 0 ≤ a ∧ a ≤ 4000 * k ∧ IsP wr w.heap.size P B N a false ∧ Frm No w wr)
    (fun vi _ => 100 - (intOf vi).toNat)
  case atStart => exact ⟨0, 0, 0, rfl, by omega, by omega, by omega, by omega, by omega, by omega, q1, f1⟩
  case round =>
    obtain ⟨k, N, a, rfl, hk, hk3, hN, hNP, ha, haB, hq, hf⟩ := hrel
    by_cases hlt : k < n ∧ k < 100
    · obtain ⟨hlt, hlt3⟩ := hlt
      obtain ⟨ad, rfl, hb, hc, hz⟩ := hI.at_ hlt
      have hcell : wr.cell? (ad.add k) = some (.int .u16 (zs.getD k 0)) := by
        rw [← hc]; exact World.cell?_of_block (hf.block _ (by rw [block_add]; exact hb) (fun h => h))
      generalize hzk : zs.getD k 0 = z at *
      have HZ := Lib.hid hzk
      clear hzk hc
      simp only [Lit.wf, Bool.and_eq_true, decide_eq_true_eq] at hz
      obtain ⟨hz0, hz1⟩ := hz
      have hz0' : 0 ≤ z := hz0
      have hz1' : z ≤ 65535 := hz1
      clear hz0 hz1
      have hk0 : 0 ≤ z % 4001 := by omega
      have hk4 : z % 4001 ≤ 4000 := by omega
      go_wp2_with fail
      refine (sent_ok _ w.heap.size P B N a _ false hq (by omega) (by omega) (by omega) (by omega) (by omega) (by omega) (by omega)).mono ?_
      rintro e w2 ⟨rfl, q2, f2⟩
      go_wp2_with fail
      go_roundw
      case rel => exact ⟨k + 1, N + 1, a + z % 4001, by go_num, by omega, by omega, by omega, by omega, by omega, by omega, q2, hf.thenG f2 (.inr (Nat.le_refl _))⟩
      case measure => simp [intOf]; omega
    · have hex : n ≤ k ∨ 100 ≤ k := by omega
      have hg : (¬ k < n) ∨ (k < n ∧ ¬ k < 100) := by omega
      clear hlt hex
      rcases hg with hg | ⟨hg, hg2⟩
      all_goals
        rcases HC.out with hr | hr | hr | hr
        · go_wp2_with fail
          refine (want_ok _ w.heap.size P B _ _ _ hq (by omega)).mono ?_
          rintro e w2 ⟨rfl, q2, f2⟩
          go_wp2_with fail
          refine (ask_yes _ w.heap.size P B _ _ _ _ _ q2 (by omega) (by simp)).mono ?_
          rintro e w3 ⟨rfl, q3, f3⟩
          go_wp2_with fail
          refine (since_ok _ w.heap.size P B _ _ _ q3 (by omega)).mono ?_
          rintro e w4 ⟨rfl, q4, f4⟩
          go_wp2_with fail
          refine (alive_yes _).mono ?_
          rintro e w5 ⟨rfl, f5⟩
          go_wp2_with fail
          refine (ask_no _ w.heap.size P B _ _ (f5.blk q4 (fun h => h)) (by omega) (by omega) (by omega)).mono ?_
          rintro e w6 ⟨rfl, q6, f6⟩
          go_wp2_with fail
          go_ret
          exact ⟨rfl, ((((hf.thenG f2 (.inr (Nat.le_refl _))).thenG f3 (.inr (Nat.le_refl _))).thenN f4).thenN f5).thenN f6⟩
        all_goals
          go_wp2_with fail
          refine (ask_yes _ w.heap.size P B _ _ _ _ _ hq (by omega) (by simp)).mono ?_
          rintro e w3 ⟨rfl, q3, f3⟩
          go_wp2_with fail
          refine (since_ok _ w.heap.size P B _ _ _ q3 (by omega)).mono ?_
          rintro e w4 ⟨rfl, q4, f4⟩
          go_wp2_with fail
          refine (alive_yes _).mono ?_
          rintro e w5 ⟨rfl, f5⟩
          go_wp2_with fail
          refine (ask_no _ w.heap.size P B _ _ (f5.blk q4 (fun h => h)) (by omega) (by omega) (by omega)).mono ?_
          rintro e w6 ⟨rfl, q6, f6⟩
          go_wp2_with fail
          go_ret
          exact ⟨rfl, (((hf.thenG f3 (.inr (Nat.le_refl _))).thenN f4).thenN f5).thenN f6⟩
end Go.Proofs.Ytnilihfhajjmhaa.A
