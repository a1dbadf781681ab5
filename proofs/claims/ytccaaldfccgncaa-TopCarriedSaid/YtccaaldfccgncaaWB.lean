/- The writer of bits: Put, Bytes. -/
import Derived.Test.YtccaaldfccgncaaW
namespace Go.Proofs.Ytccaaldfccgncaa.A
open Go.RowKit Go.Proofs.Ytccaaldfccgncaa.K
set_option linter.unusedVariables false
set_option linter.unusedSimpArgs false

set_option maxRecDepth 100000 in
theorem fr46 {a : Act} {x0 x1 x2 x7 : Value} (hs : a.tmps.size = 48) (hd : a.defers = []) (h0 : a.tmps.getD 0 undef = x0) (h1 : a.tmps.getD 1 undef = x1) (h2 : a.tmps.getD 2 undef = x2) (h7 : a.tmps.getD 7 undef = x7) : ∃ U : Nat → Value, a = ⟨#[x0, x1, x2, U 3, U 4, U 5, U 6, x7, U 8, U 9, U 10, U 11, U 12, U 13, U 14, U 15, U 16, U 17, U 18, U 19, U 20, U 21, U 22, U 23, U 24, U 25, U 26, U 27, U 28, U 29, U 30, U 31, U 32, U 33, U 34, U 35, U 36, U 37, U 38, U 39, U 40, U 41, U 42, U 43, U 44, U 45, U 46, U 47], []⟩ := by
  have e := act_frame a 48 hs hd
  obtain ⟨f, hf⟩ : ∃ f : Nat → Value, (fun i => a.tmps.getD i undef) = f := ⟨_, rfl⟩
  rw [hf, show ((List.range 48).map f).toArray = #[f 0, f 1, f 2, f 3, f 4, f 5, f 6, f 7, f 8, f 9, f 10, f 11, f 12, f 13, f 14, f 15, f 16, f 17, f 18, f 19, f 20, f 21, f 22, f 23, f 24, f 25, f 26, f 27, f 28, f 29, f 30, f 31, f 32, f 33, f 34, f 35, f 36, f 37, f 38, f 39, f 40, f 41, f 42, f 43, f 44, f 45, f 46, f 47] from rfl] at e
  refine ⟨f, ?_⟩
  have hi : ∀ i, f i = a.tmps.getD i undef := fun i => by rw [← hf]
  rw [e]
  simp only [show f 0 = x0 from (hi 0).trans h0, show f 1 = x1 from (hi 1).trans h1, show f 2 = x2 from (hi 2).trans h2, show f 7 = x7 from (hi 7).trans h7]

set_option maxRecDepth 100000 in
set_option maxHeartbeats 4000000 in
theorem wr_put (w : World) (g B v n : Nat) (bs : List Nat) (h : IsWr w g B bs) (hv : v < 2 ^ n) (hn : n ≤ 11) (hB : B ≤ w.heap.size) (hl : bs.length ≤ 50000) :
    Calls Try.prog 46 #[.pointer (some ⟨g, 0, none⟩), .int .u64 v, .int .i64 n] w fun e w' => e = .returned (.int .i64 0) ∧ IsWr w' g B (bs ++ bitsOf v n) ∧ Past w w' g B := by
  have hv2 : v < 2048 := Nat.lt_of_lt_of_le hv (Nat.le_trans (Nat.pow_le_pow_right (by decide) hn) (by decide))
  have n0 : (0 : Int) ≤ (n : Int) := Int.natCast_nonneg _
  have n64 : (n : Int) ≤ 11 := by omega
  have hsh : (v : Int) / 2 ^ n = 0 := by
    have : ((v / 2 ^ n : Nat) : Int) = 0 := by rw [Nat.div_eq_of_lt hv]; rfl
    rw [← this]; push_cast; rfl
  have hg1 : ∃ cs, Blk w g cs 135 := by obtain ⟨v, hb, _⟩ := h; exact ⟨_, hb⟩
  obtain ⟨l, hll⟩ : ∃ l, bs.length = l := ⟨_, rfl⟩
  have k1 : w.cell? ⟨g, 1, none⟩ = some (.int .i64 (l : Int)) := by obtain ⟨v, hb, _⟩ := h; rw [← hll]; exact hb.cell 1
  have pwl : IntKind.i64.wrap (65536 - (l : Int)) = 65536 - (l : Int) := IntWalk.i64_in _ ⟨by omega, by omega⟩
  have hfull : ¬ (65536 - (l : Int)) < (n : Int) := by omega
  have H := Lib.hid (And.intro h (And.intro hv hll))
  clear h hll hv hg1
  go_enter Try.func46, Try.ntmps46
  go_wp2_with fail
  refine wp_scope_pass 0 (fun a' wr => ∃ (i : Nat), a'.tmps.size = 48 ∧ a'.defers = [] ∧ a'.tmps.getD 0 undef = .pointer (some ⟨g, 0, none⟩) ∧ a'.tmps.getD 1 undef = .int .u64 (v : Int) ∧ a'.tmps.getD 2 undef = .int .i64 (n : Int) ∧ a'.tmps.getD 7 undef = .int .i64 (i : Int) ∧ i ≤ n ∧ IsWr wr g B (bs ++ (bitsOf v n).take (n - i)) ∧ Past w wr g B) (fun a' _ => (intOf (a'.tmps.getD 7 undef)).toNat) rfl ?_ ?_
  · rintro a' wr ⟨i, hs', hd', e0', e1', e2', e7', hi, hW, hP⟩
    obtain ⟨U, rfl⟩ := fr46 hs' hd' e0' e1' e2' e7'
    clear hs' hd' e0' e1' e2' e7'
    cases i with
    | zero =>
      have HW := Lib.hid (And.intro hW hP)
      clear hW hP
      go_wp2_with fail
      try simp only [Exit.jump]
      go_ret
      have h1 := HW.out.1
      rw [Nat.sub_zero, List.take_of_length_le (by rw [bitsOf_len]; exact Nat.le_refl _)] at h1
      exact ⟨rfl, h1, HW.out.2⟩
    | succ k =>
      obtain ⟨i, hik⟩ : ∃ i, k + 1 = i := ⟨_, rfl⟩
      rw [hik] at hi hW ⊢
      have i1 : (0 : Int) < (i : Int) := by omega
      have i9 : (i : Int) ≤ 11 := by omega
      have pwi : IntKind.i64.wrap ((i : Int) - 1) = (k : Int) := by rw [IntWalk.i64_in _ ⟨by omega, by omega⟩]; omega
      have pwj : (i : Int) - 1 = (k : Int) := by omega
      have k0 : (0 : Int) ≤ (k : Int) := Int.natCast_nonneg _
      have k64 : (k : Int) < 64 := by omega
      obtain ⟨q, hq⟩ : ∃ q, v / 2 ^ k = q := ⟨_, rfl⟩
      have hq9 : q ≤ 2047 := by rw [← hq]; have := Nat.div_le_self v (2 ^ k); omega
      have hdiv : (v : Int) / 2 ^ k = (q : Int) := by rw [← hq]; push_cast; rfl
      obtain ⟨b, hb⟩ : ∃ b, q % 2 = b := ⟨_, rfl⟩
      have hb1 : b ≤ 1 := by omega
      have hand : bits .and .u64 (q : Int) 1 = (b : Int) := by rw [← hb]; exact and64 (by omega)
      have pwb : IntKind.u8.wrap (b : Int) = (b : Int) := IntWalk.u8_in _ ⟨by omega, by omega⟩
      have hone := one_is wr g B b _ hW hb1 (by have := hP.size; omega) (by rw [List.length_append, List.length_take, bitsOf_len]; omega)
      have htk : bs ++ (bitsOf v n).take (n - k) = bs ++ (bitsOf v n).take (n - i) ++ [b] := by
        rw [show n - k = (n - i) + 1 by omega, bitsOf_take v n (n - i) (by omega), List.append_assoc, show n - 1 - (n - i) = k by omega, hq, hb]
      rw [← htk] at hone
      have HK := Lib.hid (And.intro hP (And.intro hi hik))
      clear hW hP hq hb htk hi hik hv2
      go_wp2_with fail
      refine hone.mono ?_
      rintro e w2 ⟨rfl, W2, P2⟩
      have H2 := Lib.hid (And.intro W2 (HK.out.1.trans P2))
      clear W2 P2
      go_wp2_with fail
      try go_step3
      refine ⟨rfl, ⟨k, rfl, rfl, rfl, rfl, rfl, rfl, by have := HK.out; omega, H2.out.1, H2.out.2⟩, ?_⟩
      have := HK.out.2.2
      simp [intOf, Array.getD]
      omega
  · intro hpass
    have H0 := Lib.hid (show IsWr w g B (bs ++ (bitsOf v n).take (n - n)) by rw [Nat.sub_self, List.take_zero, List.append_nil]; exact H.out.1)
    go_wp2_with fail
    go_step3
    refine (by assumption : ∀ (a : Act) (w : World), Code.wp Try.prog _ _ a w → _) _ _ (hpass _ _ ?_)
    exact ⟨n, rfl, rfl, rfl, rfl, rfl, rfl, Nat.le_refl _, H0.out, Past.refl _ _ _⟩
/-- Bytes: a copy. -/
theorem wr_bytes (w : World) (g B : Nat) (bs : List Nat) (h : IsWr w g B bs) (hl : bs.length ≤ 50000) : Calls Try.prog 48 #[.pointer (some ⟨g, 0, none⟩)] w fun e w' => ∃ v, e = .returned v ∧ RowB w' w.heap.size v (pk bs) ∧ Frm No w w' := by
  obtain ⟨v, hb, hr, hbits⟩ := h
  obtain ⟨A, c, rfl, -, hbt⟩ := hr.out
  obtain ⟨l, hll⟩ : ∃ l, (pk bs).length = l := ⟨_, rfl⟩
  rw [hll] at hb
  have k0 : w.cell? ⟨g, 0, none⟩ = some (.slice A l c) := hb.cell 0
  have hc := cloneB w A l c (pk bs) hbt.bin hll (by rw [← hll, pk_len]; omega)
  clear hb hr hbits hbt hll
  go_enter Try.func48, Try.ntmps48
  go_wp2_with fail
  refine hc.mono ?_
  rintro e w1 ⟨v1, rfl, R1, F1⟩
  have H1 := Lib.hid (And.intro R1 F1)
  obtain ⟨A1, c1, rfl, -, -⟩ := R1.out
  clear F1
  go_wp2_with fail
  go_ret
  exact ⟨_, rfl, H1.out.1, H1.out.2⟩
end Go.Proofs.Ytccaaldfccgncaa.A
