/- Small whole numbers as floats: what they read as, how they stand to each other, their sums; the numbers that they are. -/
import Derived.Laws.ComplexArith
namespace Go.Proofs.Ytcdjofneijlbgaa.F
open Ieee
set_option linter.unusedVariables false
set_option linter.unusedSimpArgs false

/-- The float of a whole number. -/
def FI (n : Int) : Nat := double.nearest (decide (n < 0)) n.natAbs 0
theorem FI_of (n : Int) : floatOfInt .f64 n = FI n := rfl

theorem nearest_exact (s : Bool) (m k l : Nat) (hm : m ≠ 0) (hl : m.log2 = l) (hl2 : l ≤ 52) (hk : k ≤ 2000) :
    double.nearest s (m * 2 ^ k) (-(k : Int)) = double.word s ((l + 1022) * 2 ^ 52 + m * 2 ^ (52 - l)) := by
  have hpos : 0 < m := by omega
  have hlog : (m * 2 ^ k).log2 = l + k := by
    rw [← hl]
    have h1 := (Nat.le_log2 hm).1 (Nat.le_refl _)
    have h2 := Nat.lt_log2_self (n := m)
    have hne : m * 2 ^ k ≠ 0 := by have := Nat.two_pow_pos k; exact Nat.mul_ne_zero hm (by omega)
    refine Nat.le_antisymm ?_ ?_
    · have : (m * 2 ^ k).log2 < m.log2 + k + 1 := (Nat.log2_lt hne).2 (by
        rw [show m.log2 + k + 1 = (m.log2 + 1) + k by omega, Nat.pow_add]
        exact Nat.mul_lt_mul_of_pos_right h2 (Nat.two_pow_pos k))
      omega
    · exact (Nat.le_log2 hne).2 (by rw [Nat.pow_add]; exact Nat.mul_le_mul_right _ h1)
  have hkept : m * 2 ^ (52 - l) < 2 ^ 53 := by
    have h2 := Nat.lt_log2_self (n := m)
    rw [hl] at h2
    calc m * 2 ^ (52 - l) < 2 ^ (l + 1) * 2 ^ (52 - l) := Nat.mul_lt_mul_of_pos_right h2 (Nat.two_pow_pos _)
      _ = 2 ^ 53 := by rw [← Nat.pow_add]; congr 1; omega
  have hne : m * 2 ^ k ≠ 0 := by have := Nat.two_pow_pos k; exact Nat.mul_ne_zero hm (by omega)
  unfold Format.nearest
  rw [if_neg hne, hlog]
  have hlp : double.leastPlace = -1074 := by decide
  have hfb : double.fractionBits = 52 := rfl
  have hlast : max (-(k : Int) + ((l + k : Nat) : Int) - (double.fractionBits : Int)) double.leastPlace = (l : Int) - 52 := by
    rw [hlp, hfb]; omega
  simp only [hlast]
  have hk2 : Toward.even.cut s ((m * 2 ^ k) <<< (-(k : Int) - ((l : Int) - 52)).toNat) (((l : Int) - 52) - -(k : Int)).toNat = m * 2 ^ (52 - l) := by
    by_cases hc : k + l ≤ 52
    · have e1 : (-(k : Int) - ((l : Int) - 52)).toNat = 52 - l - k := by omega
      have e2 : (((l : Int) - 52) - -(k : Int)).toNat = 0 := by omega
      rw [e1, e2, Nat.shiftLeft_eq]
      unfold Toward.cut
      have : m * 2 ^ k * 2 ^ (52 - l - k) = m * 2 ^ (52 - l) := by rw [Nat.mul_assoc, ← Nat.pow_add]; congr 2; omega
      rw [this]
      simp
      omega
    · have e1 : (-(k : Int) - ((l : Int) - 52)).toNat = 0 := by omega
      have e2 : (((l : Int) - 52) - -(k : Int)).toNat = k + l - 52 := by omega
      rw [e1, e2, Nat.shiftLeft_eq, Nat.pow_zero, Nat.mul_one]
      unfold Toward.cut
      have hmin : min (k + l - 52) ((m * 2 ^ k).log2 + 2) = k + l - 52 := by rw [hlog]; omega
      rw [hmin, Nat.shiftLeft_eq, Nat.one_mul]
      have hp := Nat.two_pow_pos (k + l - 52)
      have hsp : m * 2 ^ k = (m * 2 ^ (52 - l)) * 2 ^ (k + l - 52) := by rw [Nat.mul_assoc, ← Nat.pow_add]; congr 2; omega
      rw [hsp]
      dsimp only
      rw [Nat.mul_div_cancel _ hp, Nat.mul_mod_left]
      simp
  rw [hk2]
  have e3 : ((l : Int) - 52 - double.leastPlace).toNat = l + 1022 := by rw [hlp]; omega
  have hb : double.binade = 2 ^ 52 := rfl
  have hi : double.infRung = 2047 * 2 ^ 52 := by decide
  rw [e3, hb, hi, Nat.min_eq_left]
  omega

/-- A number that is read: its sign, how great it is, where its last digit stands. -/
def Reads (x : Nat) (n : Int) (k : Nat) : Prop := ∃ m, double.read x = .number (decide (n < 0)) m (-(k : Int)) ∧ m = n.natAbs * 2 ^ k

theorem read_word (s : Bool) (r : Nat) (h1 : 2 ^ 52 ≤ r) (h2 : r < 2047 * 2 ^ 52) :
    double.read (double.word s r) = .number s (2 ^ 52 + r % 2 ^ 52) (-1074 + ((r / 2 ^ 52 - 1 : Nat) : Int)) := by
  have hsw : double.signWeight = 2 ^ 63 := by decide
  have hb : double.binade = 2 ^ 52 := rfl
  have hi : double.infRung = 2047 * 2 ^ 52 := by decide
  have hlp : double.leastPlace = -1074 := by decide
  have hlt : r < 2 ^ 63 := by omega
  have e1 : (double.word s r / 2 ^ 63 % 2 == 1) = s := by
    unfold Format.word
    rw [hsw]
    cases s
    · have : r / 2 ^ 63 = 0 := Nat.div_eq_of_lt hlt
      simp [this]
    · have : (2 ^ 63 + r) / 2 ^ 63 = 1 := by omega
      simp [this]
  have e2 : double.word s r % 2 ^ 63 = r := by
    unfold Format.word
    rw [hsw]
    cases s
    · simp; omega
    · simp; omega
  unfold Format.read
  rw [hsw, e1, e2, hb, hi, hlp]
  dsimp only
  rw [if_neg (by omega), if_pos (by omega)]

theorem reads_FI (n : Int) (h : n.natAbs < 2 ^ 53) : ∃ k, k ≤ 1074 ∧ Reads (FI n) n k := by
  by_cases h0 : n = 0
  · subst h0
    have key : ∀ k : Nat, k = 1074 → Reads (FI 0) 0 k := fun k hk => ⟨0, by rw [hk]; decide, by rw [show (0 : Int).natAbs = 0 from rfl, Nat.zero_mul]⟩
    exact ⟨1074, by omega, key 1074 rfl⟩
  · have hm : n.natAbs ≠ 0 := by omega
    obtain ⟨l, hl⟩ : ∃ l, n.natAbs.log2 = l := ⟨_, rfl⟩
    have hl2 : l ≤ 52 := by
      have : n.natAbs.log2 < 53 := (Nat.log2_lt hm).2 h
      omega
    have h1 := (Nat.le_log2 hm).1 (Nat.le_of_eq hl.symm)
    have h2 := Nat.lt_log2_self (n := n.natAbs)
    rw [hl] at h2
    have g1 : 2 ^ 52 ≤ n.natAbs * 2 ^ (52 - l) := by
      calc 2 ^ 52 = 2 ^ l * 2 ^ (52 - l) := by rw [← Nat.pow_add]; congr 1; omega
        _ ≤ _ := Nat.mul_le_mul_right _ h1
    have g2 : n.natAbs * 2 ^ (52 - l) < 2 ^ 53 := by
      calc _ < 2 ^ (l + 1) * 2 ^ (52 - l) := Nat.mul_lt_mul_of_pos_right h2 (Nat.two_pow_pos _)
        _ = 2 ^ 53 := by rw [← Nat.pow_add]; congr 1; omega
    have hx := nearest_exact (decide (n < 0)) n.natAbs 0 l hm hl hl2 (by omega)
    rw [Nat.pow_zero, Nat.mul_one] at hx
    have hF : FI n = double.word (decide (n < 0)) ((l + 1022) * 2 ^ 52 + n.natAbs * 2 ^ (52 - l)) := hx
    obtain ⟨K, hK⟩ : ∃ K, n.natAbs * 2 ^ (52 - l) = K := ⟨_, rfl⟩
    rw [hK] at g1 g2 hF
    refine ⟨52 - l, by omega, K, ?_, hK.symm⟩
    rw [hF, read_word _ _ (by omega) (by omega)]
    have a1 : 2 ^ 52 + ((l + 1022) * 2 ^ 52 + K) % 2 ^ 52 = K := by omega
    have a2 : ((l + 1022) * 2 ^ 52 + K) / 2 ^ 52 = l + 1023 := by omega
    rw [a1, a2, show (-1074 + ((l + 1023 - 1 : Nat) : Int)) = -((52 - l : Nat) : Int) by omega]

theorem signed_eq {n : Int} {m k : Nat} (h : m = n.natAbs * 2 ^ k) (u : Nat) : signed (decide (n < 0)) m u = n * 2 ^ (k + u) := by
  unfold signed
  rw [Nat.shiftLeft_eq, h, Nat.mul_assoc, ← Nat.pow_add]
  by_cases hn : n < 0
  · rw [decide_eq_true hn, if_pos rfl]
    have : ((n.natAbs * 2 ^ (k + u) : Nat) : Int) = (n.natAbs : Int) * 2 ^ (k + u) := by rw [Int.natCast_mul, Int.natCast_pow]; rfl
    rw [this, show (n.natAbs : Int) = -n by omega, Int.neg_mul, Int.neg_neg]
  · rw [decide_eq_false hn, if_neg (by decide)]
    have : ((n.natAbs * 2 ^ (k + u) : Nat) : Int) = (n.natAbs : Int) * 2 ^ (k + u) := by rw [Int.natCast_mul, Int.natCast_pow]; rfl
    rw [this, show (n.natAbs : Int) = n by omega]

theorem compare_mul (a b : Int) (u : Nat) : compare (a * 2 ^ u) (b * 2 ^ u) = compare a b := by
  have hp : (0 : Int) < 2 ^ u := Int.pow_pos (by decide)
  simp only [compare, compareOfLessAndEq]
  by_cases h : a < b
  · rw [if_pos h, if_pos (Int.mul_lt_mul_of_pos_right h hp)]
  · rw [if_neg h, if_neg (fun h' => h (Int.lt_of_mul_lt_mul_right h' (Int.le_of_lt hp)))]
    by_cases e : a = b
    · rw [if_pos e, if_pos (by rw [e])]
    · rw [if_neg e, if_neg (fun h' => e (Int.eq_of_mul_eq_mul_right (by omega) h'))]

/-- How two of them stand to each other. -/
theorem order_FI (a b : Int) (ha : a.natAbs < 2 ^ 53) (hb : b.natAbs < 2 ^ 53) : double.order (FI a) (FI b) = some (compare a b) := by
  obtain ⟨i, -, m, h1, h2⟩ := reads_FI a ha
  obtain ⟨j, -, n, h3, h4⟩ := reads_FI b hb
  unfold Format.order
  rw [h1, h3]
  simp only [Datum.order]
  rw [signed_eq h2, signed_eq h4]
  have e1 : i + (-(i : Int) - min (-(i : Int)) (-(j : Int))).toNat = max i j := by omega
  have e2 : j + (-(j : Int) - min (-(i : Int)) (-(j : Int))).toNat = max i j := by omega
  rw [e1, e2, compare_mul]

/-- Their sum. -/
theorem add_FI (a b : Int) (ha : a.natAbs < 2 ^ 51) (hb : b.natAbs < 2 ^ 51) : double.add (FI a) (FI b) = some (FI (a + b)) := by
  obtain ⟨i, hi, m, h1, h2⟩ := reads_FI a (by omega)
  obtain ⟨j, hj, n, h3, h4⟩ := reads_FI b (by omega)
  unfold Format.add
  rw [h1, h3]
  simp only [Datum.sum, Option.map_some, Format.write]
  rw [signed_eq h2, signed_eq h4]
  have e1 : i + (-(i : Int) - min (-(i : Int)) (-(j : Int))).toNat = max i j := by omega
  have e2 : j + (-(j : Int) - min (-(i : Int)) (-(j : Int))).toNat = max i j := by omega
  have e3 : min (-(i : Int)) (-(j : Int)) = -((max i j : Nat) : Int) := by omega
  rw [e1, e2, e3, ← Int.add_mul]
  obtain ⟨k, hk⟩ : ∃ k, max i j = k := ⟨_, rfl⟩
  have hk2 : k ≤ 1074 := by omega
  rw [hk]
  have hp : (0 : Int) < 2 ^ k := Int.pow_pos (by decide)
  by_cases h0 : a + b = 0
  · rw [h0, Int.zero_mul, if_pos rfl]
    have hs : (decide (a < 0) && decide (b < 0)) = false := by
      by_cases h : a < 0
      · rw [decide_eq_false (show ¬ b < 0 by omega)]; simp
      · rw [decide_eq_false h]; simp
    rw [hs]
    simp [FI, Format.nearest]
  · have hne : (a + b) * 2 ^ k ≠ 0 := Int.mul_ne_zero h0 (by omega)
    rw [if_neg hne]
    have hab : ((a + b) * 2 ^ k).natAbs = (a + b).natAbs * 2 ^ k := by rw [Int.natAbs_mul, Int.natAbs_pow]; rfl
    have hs : decide ((a + b) * 2 ^ k < 0) = decide (a + b < 0) := by
      rw [decide_eq_decide]
      constructor
      · intro h
        by_cases hc : a + b < 0
        · exact hc
        · have := Int.mul_nonneg (show 0 ≤ a + b by omega) (Int.le_of_lt hp)
          omega
      · intro h; exact Int.mul_neg_of_neg_of_pos h hp
    have hm : (a + b).natAbs ≠ 0 := by omega
    have hlog : (a + b).natAbs.log2 ≤ 52 := by
      have : (a + b).natAbs.log2 < 53 := (Nat.log2_lt hm).2 (by omega)
      omega
    rw [hs, hab, nearest_exact _ _ k _ hm rfl hlog (by omega)]
    have := nearest_exact (decide (a + b < 0)) (a + b).natAbs 0 _ hm rfl hlog (by omega)
    rw [Nat.pow_zero, Nat.mul_one] at this
    exact congrArg some this.symm

/-- Cut towards nought it is itself. -/
theorem integral_FI (n : Int) (k m : Nat) (h2 : m = n.natAbs * 2 ^ k) : (Datum.number (decide (n < 0)) m (-(k : Int))).integral .zero = .number (decide (n < 0)) n.natAbs 0 := by
  unfold Datum.integral
  have e1 : (-(k : Int)).toNat = 0 := by omega
  have e2 : (-(-(k : Int))).toNat = k := by omega
  simp only [e1, e2]
  rw [Nat.shiftLeft_eq, Nat.pow_zero, Nat.mul_one]
  congr 1
  unfold Toward.cut
  dsimp only
  by_cases h0 : n.natAbs = 0
  · rw [h2, h0]; simp
  · have hlog : k ≤ m.log2 := by
      rw [h2]
      refine (Nat.le_log2 ?_).2 ?_
      · exact Nat.mul_ne_zero h0 (by have := Nat.two_pow_pos k; omega)
      · exact Nat.le_mul_of_pos_left _ (by omega)
    rw [Nat.min_eq_left (by omega), Nat.shiftLeft_eq, Nat.one_mul, h2, Nat.mul_div_cancel _ (Nat.two_pow_pos k)]
    rfl
theorem toInt_FI (n : Int) (h : n.natAbs < 2 ^ 53) : (double.read (FI n)).toInt .zero = some n := by
  obtain ⟨k, hk, m, h1, h2⟩ := reads_FI n h
  rw [h1]
  have := integral_FI n k m h2
  unfold Datum.toInt
  rw [this]
  have := signed_eq (n := n) (m := n.natAbs) (k := 0) (by simp) 0
  simp at this
  simp only [this]
theorem int_FI (n : Int) (h : n.natAbs < 2 ^ 53) : floatToIntVal .f64 (FI n) .i64 = some n := by
  unfold floatToIntVal
  rw [show (FloatKind.f64.decode (FI n)) = double.read (FI n) from rfl, toInt_FI n h]
  dsimp only
  rw [if_pos]
  exact ⟨by show (-9223372036854775808 : Int) ≤ n; omega, by show n ≤ (9223372036854775807 : Int); omega⟩

/-! What the walk asks. -/
theorem FI_zero : FI 0 = 0 := rfl
theorem FI_one : FI 1 = 4607182418800017408 := by decide
theorem FI_neg : FI (-1) = 13830554455654793216 := by decide
theorem cmp_lt (a b : Int) (ha : a.natAbs < 2 ^ 53) (hb : b.natAbs < 2 ^ 53) : (FloatKind.f64.format.order (FI a) (FI b) == some .lt) = decide (a < b) := by
  rw [show FloatKind.f64.format = double from rfl, order_FI a b ha hb]
  simp only [compare, compareOfLessAndEq]
  by_cases h : a < b
  · simp [h]
  · by_cases e : a = b <;> simp [h, e]
theorem cmp_gt (a b : Int) (ha : a.natAbs < 2 ^ 53) (hb : b.natAbs < 2 ^ 53) : (FloatKind.f64.format.order (FI a) (FI b) == some .gt) = decide (b < a) := by
  rw [show FloatKind.f64.format = double from rfl, order_FI a b ha hb]
  simp only [compare, compareOfLessAndEq]
  by_cases h : a < b
  · simp [h]; omega
  · by_cases e : a = b
    · simp [h, e]
    · simp [h, e]; omega
theorem cmp_eq (a b : Int) (ha : a.natAbs < 2 ^ 53) (hb : b.natAbs < 2 ^ 53) : (FloatKind.f64.format.order (FI a) (FI b) == some .eq) = decide (a = b) := by
  rw [show FloatKind.f64.format = double from rfl, order_FI a b ha hb]
  simp only [compare, compareOfLessAndEq]
  by_cases h : a < b
  · have : ¬ a = b := by omega
    simp [h, this]
  · by_cases e : a = b <;> simp [h, e]
theorem sum_FI (a b : Int) (ha : a.natAbs < 2 ^ 51) (hb : b.natAbs < 2 ^ 51) : floatBits .add .f64 (FI a) (FI b) = some (FI (a + b)) := add_FI a b ha hb
end Go.Proofs.Ytcdjofneijlbgaa.F
