/- Numbers that go round, as plain numbers: sizes, masks. -/
import Derived.Laws.BitsAllLaws
import Derived.Laws.BitsLemmas
namespace Go.Proofs.Ythefmklblfjfeaa.N

/-- How many numbers there are. -/
def sz (b : Int) : Int := if 1 ≤ b ∧ b ≤ 16 then 2 ^ b.toNat else 0

theorem sz_pos {b : Int} (h : 1 ≤ b ∧ b ≤ 16) : sz b = 2 ^ b.toNat := by unfold sz; rw [if_pos h]
theorem sz_zero {b : Int} (h : ¬ (1 ≤ b ∧ b ≤ 16)) : sz b = 0 := by unfold sz; rw [if_neg h]

theorem sz_range {b : Int} (h : 1 ≤ b ∧ b ≤ 16) : 2 ≤ sz b ∧ sz b ≤ 65536 ∧ 65536 % sz b = 0 ∧ sz b % 2 = 0 := by
  rw [sz_pos h]
  have : b = 1 ∨ b = 2 ∨ b = 3 ∨ b = 4 ∨ b = 5 ∨ b = 6 ∨ b = 7 ∨ b = 8 ∨ b = 9 ∨ b = 10 ∨ b = 11 ∨ b = 12 ∨ b = 13 ∨ b = 14 ∨ b = 15 ∨ b = 16 := by omega
  rcases this with rfl | rfl | rfl | rfl | rfl | rfl | rfl | rfl | rfl | rfl | rfl | rfl | rfl | rfl | rfl | rfl <;> decide

/-- A mask of an int that may be below 0. -/
theorem mask_i64 (x : Int) (k : Nat) (hk : k ≤ 16) : bits .and .i64 x (2 ^ k - 1) = x % 2 ^ k := by
  have hpos : 0 < 2 ^ k := Nat.two_pow_pos k
  have hle : 2 ^ k ≤ 2 ^ 16 := Nat.pow_le_pow_right (by decide) hk
  have hc : ((2 : Int) ^ k - 1) = ((2 ^ k - 1 : Nat) : Int) := by rw [Int.natCast_sub hpos]; simp
  have hm : (BitVec.ofInt 64 (((2 ^ k - 1 : Nat)) : Int)).toNat = 2 ^ k - 1 := by
    rw [BitVec.ofInt_natCast, BitVec.toNat_ofNat]; exact Nat.mod_eq_of_lt (by omega)
  rw [hc]
  show IntKind.i64.wrap ((BitVec.ofInt 64 x &&& BitVec.ofInt 64 ((2 ^ k - 1 : Nat) : Int)).toNat : Int) = _
  rw [BitVec.toNat_and, hm, Nat.and_two_pow_sub_one_eq_mod, BitVec.toNat_ofInt]
  have h0 : 0 ≤ x % 18446744073709551616 := Int.emod_nonneg _ (by decide)
  have e1 : (((x % ((2 ^ 64 : Nat) : Int)).toNat % 2 ^ k : Nat) : Int) = x % 2 ^ k := by
    rw [Int.natCast_emod, Int.toNat_of_nonneg (Int.emod_nonneg _ (by decide))]
    have : ((2 ^ k : Nat) : Int) = (2 : Int) ^ k := by simp
    rw [this]
    refine Int.emod_emod_of_dvd x ?_
    have : ((2 ^ 64 : Nat) : Int) = (2 : Int) ^ 64 := by decide
    rw [this]
    exact ⟨2 ^ (64 - k), by rw [← Int.pow_add, show k + (64 - k) = 64 from by omega]⟩
  rw [e1, IntKind.wrap_i64]
  have b0 : 0 ≤ x % 2 ^ k := Int.emod_nonneg _ (Int.ne_of_gt (Int.pow_pos (by decide)))
  have b1 : x % 2 ^ k < 2 ^ k := Int.emod_lt_of_pos _ (Int.pow_pos (by decide))
  have b2 : (2 : Int) ^ k ≤ 65536 := by
    have : ((2 ^ k : Nat) : Int) ≤ ((2 ^ 16 : Nat) : Int) := by exact_mod_cast hle
    simpa using this
  omega

theorem mask_sz {b : Int} (h : 1 ≤ b ∧ b ≤ 16) (x : Int) : bits .and .i64 x (sz b - 1) = x % sz b := by
  rw [sz_pos h]; exact mask_i64 x b.toNat (by omega)
end Go.Proofs.Ythefmklblfjfeaa.N
