/- What the document's functions on spaces do. -/
import Derived.Test.YthefmklblfjfeaaC
namespace Go.Proofs.Ythefmklblfjfeaa.A
open Go.RowKit Go.Proofs.Ythefmklblfjfeaa.K Go.Proofs.Ythefmklblfjfeaa.N
set_option linter.unusedVariables false
set_option linter.unusedSimpArgs false

theorem pow_le {k : Nat} (h : k ≤ 16) : 1 ≤ (2 : Int) ^ k ∧ (2 : Int) ^ k ≤ 65536 := by
  have : k = 0 ∨ k = 1 ∨ k = 2 ∨ k = 3 ∨ k = 4 ∨ k = 5 ∨ k = 6 ∨ k = 7 ∨ k = 8 ∨ k = 9 ∨ k = 10 ∨ k = 11 ∨ k = 12 ∨ k = 13 ∨ k = 14 ∨ k = 15 ∨ k = 16 := by omega
  rcases this with rfl | rfl | rfl | rfl | rfl | rfl | rfl | rfl | rfl | rfl | rfl | rfl | rfl | rfl | rfl | rfl | rfl <;> decide

set_option maxHeartbeats 1000000 in
theorem rsize_any (b : Int) (w : World) : Calls Try.prog 13 #[.int .i64 b] w fun e w' => e = .returned (.int .i64 (sz b)) ∧ w = w' := by
  by_cases h : 1 ≤ b ∧ b ≤ 16
  · rw [sz_pos h]
    obtain ⟨h1, h2⟩ := h
    obtain ⟨n, rfl⟩ := Int.eq_ofNat_of_zero_le (show 0 ≤ b by omega)
    rw [Int.toNat_natCast]
    have hn : n ≤ 16 := by omega
    go_enter Try.func13, Try.ntmps13
    go_wp2
    go_loop [3, 4] (fun p i => ∃ k : Nat, k ≤ n ∧ i = .int .i64 k ∧ p = .int .i64 (2 ^ k)) (fun _ i => n - (intOf i).toNat)
    case atStart => exact ⟨0, by omega, rfl, rfl⟩
    case round =>
      obtain ⟨k, hk, rfl, rfl⟩ := hrel
      by_cases hlt : k < n
      · have hp := pow_le (show k ≤ 16 by omega)
        have e2 : (2 : Int) ^ (k + 1) = 2 * 2 ^ k := by rw [Int.pow_succ, Int.mul_comm]
        generalize hq : (2 : Int) ^ k = q at *
        have HQ := Lib.hid hq
        have H2 := Lib.hid e2
        clear hq e2
        go_wp2
        go_round
        case rel => exact ⟨k + 1, by omega, by go_num, by rw [H2.out]⟩
        case measure => simp [intOf]; omega
      · have hkn : k = n := by omega
        subst hkn
        go_wp2
        go_ret
        exact ⟨rfl, rfl⟩
  · rw [sz_zero h]
    by_cases h1 : b < 1
    · clear h
      go_enter Try.func13, Try.ntmps13
      go_wp2
      go_ret
      exact ⟨rfl, rfl⟩
    · have h2 : 16 < b := by omega
      clear h
      go_enter Try.func13, Try.ntmps13
      go_wp2
      go_ret
      exact ⟨rfl, rfl⟩

theorem rsize_is (b S : Int) (w : World) (h : sz b = S) : Calls Try.prog 13 #[.int .i64 b] w fun e w' => e = .returned (.int .i64 S) ∧ w = w' := h ▸ rsize_any b w

theorem ris_any (b n : Int) (w : World) : Calls Try.prog 30 #[.int .i64 b, .int .i64 n] w fun e w' => e = .returned (.bool (decide (0 ≤ n ∧ n < sz b))) ∧ w = w' := by
  by_cases h0 : 0 ≤ n
  · go_enter Try.func30, Try.ntmps30
    go_wp2_with fail
    refine (rsize_any b _).mono ?_
    rintro e w1 ⟨rfl, rfl⟩
    go_wp2_with fail
    go_ret
    exact ⟨ret_eq (by simp [h0]), rfl⟩
  · go_enter Try.func30, Try.ntmps30
    go_wp2_with fail
    go_ret
    exact ⟨ret_eq (by rw [decide_eq_false (show ¬ 0 ≤ n by omega)]; rfl), rfl⟩
theorem ris_is (b n : Int) (t : Bool) (w : World) (h : decide (0 ≤ n ∧ n < sz b) = t) : Calls Try.prog 30 #[.int .i64 b, .int .i64 n] w fun e w' => e = .returned (.bool t) ∧ w = w' := h ▸ ris_any b n w

theorem tmod_cases (n m : Int) (hm : 0 < m) : (n.tmod m < 0 ∧ n % m = n.tmod m + m) ∨ (0 ≤ n.tmod m ∧ n % m = n.tmod m) := by
  have h1 := Int.emod_nonneg n (show m ≠ 0 by omega)
  have h2 := Int.emod_lt_of_pos n hm
  rcases Int.le_total 0 n with hn | hn
  · right
    rw [Int.tmod_eq_emod_of_nonneg hn]; exact ⟨h1, rfl⟩
  · have e : n.tmod m = -((-n) % m) := by
      have := Int.neg_tmod (-n) m
      rw [Int.neg_neg] at this
      rw [this, Int.tmod_eq_emod_of_nonneg (by omega)]
    have h3 := Int.emod_nonneg (-n) (show m ≠ 0 by omega)
    have h4 := Int.emod_lt_of_pos (-n) hm
    have h5 : n % m = (-((-n) % m)) % m := by
      have : n = -((-n) % m) + m * (-((-n) / m)) := by
        have := Int.emod_add_mul_ediv (-n) m
        rw [Int.mul_neg]; omega
      conv => lhs; rw [this]
      rw [Int.add_mul_emod_self_left]
    by_cases hz : (-n) % m = 0
    · right
      rw [e, h5, hz]; simp
    · left
      refine ⟨by omega, ?_⟩
      rw [e, h5]
      have : (-((-n) % m)) % m = (-((-n) % m) + m) % m := by rw [Int.add_emod_right]
      rw [this, Int.emod_eq_of_lt (by omega) (by omega)]

set_option maxHeartbeats 1000000 in
theorem mod_any (n m : Int) (w : World) (hm : 0 < m) (hm2 : m ≤ 65536) (h1 : -1000000 ≤ n) (h2 : n ≤ 1000000) :
    Calls Try.prog 36 #[.int .i64 n, .int .i64 m] w fun e w' => e = .returned (.int .i64 (n % m)) ∧ w = w' := by
  have hz : (m == 0) = false := by simp; omega
  rcases tmod_cases n m hm with ⟨hc, he⟩ | ⟨hc, he⟩
  · rw [he]
    have hb : -65536 ≤ n.tmod m := by
      have := Int.emod_nonneg n (show m ≠ 0 by omega)
      omega
    clear he
    go_enter Try.func36, Try.ntmps36
    go_wp2
    go_ret
    exact ⟨rfl, rfl⟩
  · rw [he]
    clear he
    go_enter Try.func36, Try.ntmps36
    go_wp2
    go_ret
    exact ⟨rfl, rfl⟩
end Go.Proofs.Ythefmklblfjfeaa.A
