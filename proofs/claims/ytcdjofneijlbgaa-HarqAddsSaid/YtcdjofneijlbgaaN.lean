/- Points in plain numbers: bytes and points, quarters. -/
import Derived.Laws.BitsAllLaws
import Derived.Laws.BitsLemmas
import Derived.Test.YtcdjofneijlbgaaF
namespace Go.Proofs.Ytcdjofneijlbgaa.N
open Go.Proofs.Ytcdjofneijlbgaa.F
set_option linter.unusedVariables false
set_option linter.unusedSimpArgs false

/-- A mask of an int that may be below 0. -/
theorem mask_i64 (x : Int) (k : Nat) (hk : k ≤ 16) : bits .and .i64 x (2 ^ k - 1) = x % 2 ^ k := by
  have hpos : 0 < 2 ^ k := Nat.two_pow_pos k
  have hle : 2 ^ k ≤ 2 ^ 16 := Nat.pow_le_pow_right (by decide) hk
  have hc : ((2 : Int) ^ k - 1) = ((2 ^ k - 1 : Nat) : Int) := by rw [Int.natCast_sub hpos]; simp
  have hm : (BitVec.ofInt 64 (((2 ^ k - 1 : Nat)) : Int)).toNat = 2 ^ k - 1 := by
    rw [BitVec.ofInt_natCast, BitVec.toNat_ofNat]; exact Nat.mod_eq_of_lt (by omega)
  rw [hc]
  show IntKind.i64.wrap ((BitVec.ofInt 64 x &&& BitVec.ofInt 64 ((2 ^ k - 1 : Nat) : Int)).toNat : Int) = _
  rw [BitVec.toNat_and, hm, Nat.and_two_pow_sub_one_eq_mod, BitVec.toNat_ofInt]
  have h0 : 0 ≤ x % 18446744073709551616 := Int.emod_nonneg _ (by decide)
  have e1 : (((x % ((2 ^ 64 : Nat) : Int)).toNat % 2 ^ k : Nat) : Int) = x % 2 ^ k := by
    rw [Int.natCast_emod, Int.toNat_of_nonneg (Int.emod_nonneg _ (by decide))]
    have : ((2 ^ k : Nat) : Int) = (2 : Int) ^ k := by simp
    rw [this]
    refine Int.emod_emod_of_dvd x ?_
    have : ((2 ^ 64 : Nat) : Int) = (2 : Int) ^ 64 := by decide
    rw [this]
    exact ⟨2 ^ (64 - k), by rw [← Int.pow_add, show k + (64 - k) = 64 from by omega]⟩
  rw [e1, IntKind.wrap_i64]
  have b0 : 0 ≤ x % 2 ^ k := Int.emod_nonneg _ (Int.ne_of_gt (Int.pow_pos (by decide)))
  have b1 : x % 2 ^ k < 2 ^ k := Int.emod_lt_of_pos _ (Int.pow_pos (by decide))
  have b2 : (2 : Int) ^ k ≤ 65536 := by
    have : ((2 ^ k : Nat) : Int) ≤ ((2 ^ 16 : Nat) : Int) := by exact_mod_cast hle
    simpa using this
  omega


theorem mask3 (x : Int) : bits .and .i64 x 3 = x % 4 := mask_i64 x 2 (by omega)

abbrev Pt := Int × Int
/-- The point of two bits. -/
def pt (v : Nat) : Pt := (if v / 2 % 2 = 1 then -1 else 1, if v % 2 = 1 then -1 else 1)
/-- The two bits of a byte. -/
def two (c k : Nat) : Nat := c / 4 ^ (3 - k) % 4
def byte4 (c : Nat) : List Pt := (List.range 4).map fun k => pt (two c k)
def ofL (bs : List Nat) : List Pt := bs.flatMap byte4
/-- One quarter; k quarters. -/
def qt (p : Pt) : Pt := (-p.2, p.1)
def turnp : Nat → Pt → Pt
  | 0, p => p
  | k + 1, p => turnp k (qt p)
/-- k as quarters. -/
def qn (k : Int) : Nat := (k % 4).toNat
theorem qn_lt (k : Int) : qn k < 4 := by unfold qn; omega
/-- One of the four. -/
def Four (p : Pt) : Prop := (p.1 = 1 ∨ p.1 = -1) ∧ (p.2 = 1 ∨ p.2 = -1)
theorem pt_four (v : Nat) : Four (pt v) := by
  unfold pt Four
  constructor
  · by_cases h : v / 2 % 2 = 1 <;> simp [h]
  · by_cases h : v % 2 = 1 <;> simp [h]
theorem qt_four {p : Pt} (h : Four p) : Four (qt p) := by
  obtain ⟨h1, h2⟩ := h
  unfold qt Four
  simp only
  omega
theorem turn_four : ∀ (k : Nat) {p : Pt}, Four p → Four (turnp k p)
  | 0, _, h => h
  | k + 1, _, h => turn_four k (qt_four h)
theorem ofL_four (bs : List Nat) : ∀ p ∈ ofL bs, Four p := fun p hp => by
  unfold ofL at hp
  obtain ⟨c, _, hp⟩ := List.mem_flatMap.1 hp
  unfold byte4 at hp
  obtain ⟨k, _, rfl⟩ := List.mem_map.1 hp
  exact pt_four _
theorem byte4_len (c : Nat) : (byte4 c).length = 4 := by simp [byte4]
theorem ofL_len (bs : List Nat) : (ofL bs).length = 4 * bs.length := by
  induction bs with
  | nil => rfl
  | cons c l ih =>
    have e : ofL (c :: l) = byte4 c ++ ofL l := rfl
    rw [e, List.length_append, byte4_len, ih, List.length_cons]; omega

/-- What is multiplied by: 1, i, -1, -i (with the signs that the noughts come to). -/
def byB (k : Nat) : Nat × Nat := match k with
  | 0 => (4607182418800017408, 0)
  | 1 => (0, 4607182418800017408)
  | 2 => (13830554455654793216, 0)
  | _ => (9223372036854775808, 13830554455654793216)
theorem byB_step (k : Nat) (h : k < 3) : cMulBits (byB k).1 (byB k).2 0 4607182418800017408 = some (byB (k + 1)) := by
  have : k = 0 ∨ k = 1 ∨ k = 2 := by omega
  rcases this with rfl | rfl | rfl <;> decide +kernel
theorem byB_turn (k : Nat) (hk : k < 4) (p : Pt) (h : Four p) : cMulBits (FI p.1) (FI p.2) (byB k).1 (byB k).2 = some (FI (turnp k p).1, FI (turnp k p).2) := by
  obtain ⟨x, y⟩ := p
  obtain ⟨h1, h2⟩ := h
  simp only at h1 h2
  have : k = 0 ∨ k = 1 ∨ k = 2 ∨ k = 3 := by omega
  rcases this with rfl | rfl | rfl | rfl <;> rcases h1 with rfl | rfl <;> rcases h2 with rfl | rfl <;> decide +kernel
theorem zero_sub (y : Int) (h : y = 1 ∨ y = -1) : floatBits .sub .f64 0 (FI y) = some (FI (-y)) := by
  rcases h with rfl | rfl <;> decide +kernel
end Go.Proofs.Ytcdjofneijlbgaa.N
