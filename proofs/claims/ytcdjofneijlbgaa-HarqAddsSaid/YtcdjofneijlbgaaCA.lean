/- Sums of sixteen bits. -/
import Derived.Test.YtcdjofneijlbgaaRB
import Derived.Test.YtcdjofneijlbgaaM
import Derived.ScopeJumps
namespace Go.Proofs.Ytcdjofneijlbgaa.A
open Go.RowKit Go.Proofs.Ytcdjofneijlbgaa.K Go.Proofs.Ytcdjofneijlbgaa.F Go.Proofs.Ytcdjofneijlbgaa.N
set_option linter.unusedVariables false
set_option linter.unusedSimpArgs false

theorem xor_lt16 {x y : Nat} (hx : x < 65536) (hy : y < 65536) : x ^^^ y < 65536 := Nat.xor_lt_two_pow (n := 16) hx hy
theorem bv16 {x : Nat} (hx : x < 65536) : (BitVec.ofInt 16 (x : Int)).toNat = x := by
  rw [BitVec.ofInt_natCast, BitVec.toNat_ofNat]; exact Nat.mod_eq_of_lt (by omega)
theorem bv32 {x : Nat} (hx : x < 65536) : (BitVec.ofInt 32 (x : Int)).toNat = x := by
  rw [BitVec.ofInt_natCast, BitVec.toNat_ofNat]; exact Nat.mod_eq_of_lt (by omega)
theorem wrap16 {x : Nat} (hx : x < 65536) : IntKind.u16.wrap (x : Int) = (x : Int) := by
  unfold IntKind.wrap
  have e : ((x : Int) % (2 ^ IntKind.u16.bits : Int)) = (x : Int) := Int.emod_eq_of_lt (by omega) (by show _ < ((65536 : Nat) : Int); omega)
  simp only [e]
  rfl
theorem wrap32 {x : Nat} (hx : x < 4294967296) : IntKind.u32.wrap (x : Int) = (x : Int) := by
  unfold IntKind.wrap
  have e : ((x : Int) % (2 ^ IntKind.u32.bits : Int)) = (x : Int) := Int.emod_eq_of_lt (by omega) (by show _ < ((4294967296 : Nat) : Int); omega)
  simp only [e]
  rfl
theorem xor_u16 {x y : Nat} (hx : x < 65536) (hy : y < 65536) : bits .xor .u16 (x : Int) (y : Int) = ((x ^^^ y : Nat) : Int) := by
  show IntKind.u16.wrap ((BitVec.ofInt 16 (x : Int) ^^^ BitVec.ofInt 16 (y : Int)).toNat : Int) = _
  rw [BitVec.toNat_xor, bv16 hx, bv16 hy]
  exact wrap16 (xor_lt16 hx hy)
theorem xor_u32 {x y : Nat} (hx : x < 65536) (hy : y < 65536) : bits .xor .u32 (x : Int) (y : Int) = ((x ^^^ y : Nat) : Int) := by
  show IntKind.u32.wrap ((BitVec.ofInt 32 (x : Int) ^^^ BitVec.ofInt 32 (y : Int)).toNat : Int) = _
  rw [BitVec.toNat_xor, bv32 hx, bv32 hy]
  exact wrap32 (by have := xor_lt16 hx hy; omega)
theorem and_top {x : Nat} (hx : x < 65536) : x &&& 2 ^ 15 = if 2 ^ 15 ≤ x then 2 ^ 15 else 0 := by
  apply Nat.eq_of_testBit_eq
  intro i
  rw [Nat.testBit_and, Nat.testBit_two_pow]
  by_cases hi : 15 = i
  · subst hi
    rw [Nat.testBit_eq_decide_div_mod_eq]
    by_cases h : 2 ^ 15 ≤ x
    · rw [if_pos h, decide_eq_true (by omega), Nat.testBit_two_pow]; simp
    · rw [if_neg h, decide_eq_false (by omega)]; simp
  · rw [decide_eq_false hi, Bool.and_false]
    split
    · rw [Nat.testBit_two_pow, decide_eq_false hi]
    · simp
theorem top_u16 {x : Nat} (hx : x < 65536) : bits .and .u16 (x : Int) 32768 = if 32768 ≤ x then 32768 else 0 := by
  show IntKind.u16.wrap ((BitVec.ofInt 16 (x : Int) &&& BitVec.ofInt 16 ((32768 : Nat) : Int)).toNat : Int) = _
  rw [BitVec.toNat_and, bv16 hx, bv16 (by decide), show (32768 : Nat) = 2 ^ 15 from rfl, and_top hx]
  by_cases h : 2 ^ 15 ≤ x
  · rw [if_pos h, if_pos h]; decide
  · rw [if_neg h, if_neg h]; decide
/-- One step. -/
def st (v : Nat) : Nat := if 32768 ≤ v then (2 * v - 65536) ^^^ 4129 else 2 * v
theorem st_lt {v : Nat} (h : v < 65536) : st v < 65536 := by
  unfold st
  split
  · exact xor_lt16 (by omega) (by omega)
  · omega
def stN : Nat → Nat → Nat
  | 0, v => v
  | k + 1, v => st (stN k v)
theorem stN_lt {v : Nat} (h : v < 65536) : ∀ k, stN k v < 65536
  | 0 => h
  | k + 1 => st_lt (stN_lt h k)
/-- A byte more. -/
def on (s c : Nat) : Nat := stN 8 (s ^^^ (256 * c))
theorem on_lt {s c : Nat} (hs : s < 65536) (hc : c < 256) : on s c < 65536 := by
  unfold on
  exact stN_lt (xor_lt16 hs (by omega)) 8
def crc (s : Nat) (l : List Nat) : Nat := l.foldl on s
theorem crc_lt : ∀ (l : List Nat) (s : Nat), s < 65536 → (∀ c ∈ l, c < 256) → crc s l < 65536
  | [], s, h, _ => h
  | c :: l, s, h, hl => by
    have := crc_lt l (on s c) (on_lt h (hl c (by simp))) (fun d hd => hl d (by simp [hd]))
    unfold crc at this ⊢
    rw [List.foldl_cons]; exact this
theorem crc_snoc (s : Nat) (l : List Nat) (c : Nat) : crc s (l ++ [c]) = on (crc s l) c := by unfold crc; rw [List.foldl_append, List.foldl_cons, List.foldl_nil]
set_option maxRecDepth 100000 in
set_option maxHeartbeats 2000000 in
theorem byteOn_is (s c : Nat) (w : World) (hs : s < 65536) (hc : c < 256) : Calls Try.prog 44 #[.int .u16 s, .int .u8 c] w fun e w' => e = .returned (.int .u16 (on s c : Nat)) ∧ w' = w := by
  have e0 : bits .xor .u16 (s : Int) ((c : Int) * 256) = ((s ^^^ (256 * c) : Nat) : Int) := by
    have := xor_u16 (x := s) (y := 256 * c) hs (by omega)
    rw [← this]; congr 1; push_cast; omega
  obtain ⟨s0, hs0⟩ : ∃ s0, s ^^^ (256 * c) = s0 := ⟨_, rfl⟩
  have hs1 : s0 < 65536 := by rw [← hs0]; exact xor_lt16 hs (by omega)
  have hon : on s c = stN 8 s0 := by unfold on; rw [hs0]
  rw [hs0] at e0
  rw [hon]
  have c0 : (0 : Int) ≤ (c : Int) := by omega
  have c1 : (c : Int) ≤ 255 := by omega
  clear hon
  go_enter Try.func44, Try.ntmps44
  go_wp2_with fail
  refine wp_scope_jumps 0 (fun a' w' => ∃ (j : Nat) (u6 u7 u8 u9 u10 u11 u12 u13 u14 u15 u16 u17 u18 u19 u20 u21 u22 u23 u24 : Value), a' = { tmps := #[.int .u16 (stN j s0 : Nat), .int .u8 c, undef, undef, .int .u16 0, .int .i64 j, u6, u7, u8, u9, u10, u11, u12, u13, u14, u15, u16, u17, u18, u19, u20, u21, u22, u23, u24], defers := [] } ∧ 1 ≤ j ∧ j ≤ 8 ∧ w = w') (fun a' _ => 8 - (intOf (a'.tmps.getD 5 undef)).toNat) rfl ?_ ?_
  · go_wp2_with fail
    go_step3
    have HV := hs1
    have hand := top_u16 (x := s0) HV
    by_cases ht : 32768 ≤ s0
    · rw [if_pos ht] at hand
      have hx : bits .xor .u16 ((s0 : Nat) * 2 - 65536 : Int) 4129 = ((st s0 : Nat) : Int) := by
        have := xor_u16 (x := 2 * s0 - 65536) (y := 4129) (by omega) (by omega)
        have e : ((s0 : Nat) * 2 - 65536 : Int) = ((2 * s0 - 65536 : Nat) : Int) := by omega
        unfold st
        rw [if_pos ht, e]; exact this
      have hm : IntKind.u16.wrap ((s0 : Nat) * 2 : Int) = (s0 : Nat) * 2 - 65536 := by
        unfold IntKind.wrap
        have e : (((s0 : Nat) * 2 : Int) % (2 ^ IntKind.u16.bits : Int)) = (s0 : Nat) * 2 - 65536 := by show _ % ((65536 : Nat) : Int) = _; omega
        simp only [e]
        rfl
      clear ht
      go_wp2_with fail
      try go_step3
      exact ⟨rfl, 1, _, _, _, _, _, _, _, _, _, _, _, _, _, _, _, _, _, _, _, rfl, by omega, by omega, rfl⟩
    · rw [if_neg ht] at hand
      have hm : IntKind.u16.wrap ((s0 : Nat) * 2 : Int) = (s0 : Nat) * 2 := by
        have := wrap16 (x := 2 * s0) (by omega)
        have e : ((s0 : Nat) * 2 : Int) = ((2 * s0 : Nat) : Int) := by omega
        rw [e]; exact this
      have hst : ((st s0 : Nat) : Int) = (s0 : Nat) * 2 := by unfold st; rw [if_neg ht]; push_cast; omega
      have HS := Lib.hid hst
      clear ht hst
      go_wp2_with fail
      try go_step3
      rw [← HS.out]
      exact ⟨rfl, 1, _, _, _, _, _, _, _, _, _, _, _, _, _, _, _, _, _, _, _, rfl, by omega, by omega, rfl⟩
  · rintro a' wr ⟨j, u6, u7, u8, u9, u10, u11, u12, u13, u14, u15, u16, u17, u18, u19, u20, u21, u22, u23, u24, rfl, hj1, hj8, rfl⟩
    by_cases hlt : j < 8
    · have HV := stN_lt hs1 j
      obtain ⟨v, hv⟩ : ∃ v, stN j s0 = v := ⟨_, rfl⟩
      have HSJ := Lib.hid (show ((stN (j + 1) s0 : Nat) : Int) = ((st v : Nat) : Int) from by rw [← hv]; rfl)
      rw [hv] at HV ⊢
      have j1 : (j : Int) < 8 := by omega
      clear hv
      have hand := top_u16 (x := v) HV
      by_cases ht : 32768 ≤ v
      · rw [if_pos ht] at hand
        have hx : bits .xor .u16 ((v : Nat) * 2 - 65536 : Int) 4129 = ((st v : Nat) : Int) := by
          have := xor_u16 (x := 2 * v - 65536) (y := 4129) (by omega) (by omega)
          have e : ((v : Nat) * 2 - 65536 : Int) = ((2 * v - 65536 : Nat) : Int) := by omega
          unfold st
          rw [if_pos ht, e]; exact this
        have hm : IntKind.u16.wrap ((v : Nat) * 2 : Int) = (v : Nat) * 2 - 65536 := by
          unfold IntKind.wrap
          have e : (((v : Nat) * 2 : Int) % (2 ^ IntKind.u16.bits : Int)) = (v : Nat) * 2 - 65536 := by show _ % ((65536 : Nat) : Int) = _; omega
          simp only [e]
          rfl
        clear ht
        go_wp2_with fail
        try go_step3
        rw [← HSJ.out]
        exact ⟨rfl, ⟨j + 1, _, _, _, _, _, _, _, _, _, _, _, _, _, _, _, _, _, _, _, rfl, by omega, by omega, rfl⟩, by simp [intOf]; omega⟩
      · rw [if_neg ht] at hand
        have hm : IntKind.u16.wrap ((v : Nat) * 2 : Int) = (v : Nat) * 2 := by
          have := wrap16 (x := 2 * v) (by omega)
          have e : ((v : Nat) * 2 : Int) = ((2 * v : Nat) : Int) := by omega
          rw [e]; exact this
        have hst : ((st v : Nat) : Int) = (v : Nat) * 2 := by unfold st; rw [if_neg ht]; push_cast; omega
        have HS := Lib.hid hst
        clear ht hst
        go_wp2_with fail
        try go_step3
        rw [← HS.out]
        rw [← HSJ.out]
        exact ⟨rfl, ⟨j + 1, _, _, _, _, _, _, _, _, _, _, _, _, _, _, _, _, _, _, _, rfl, by omega, by omega, rfl⟩, by simp [intOf]; omega⟩
    · obtain rfl : j = 8 := by omega
      obtain ⟨v, hv⟩ : ∃ v, stN 8 s0 = v := ⟨_, rfl⟩
      rw [hv]
      have HV2 := Lib.hid hv
      clear hv
      go_wp2_with fail
      simp only [Exit.jump]
      go_ret
      exact ⟨by rw [HV2.out]; rfl, rfl⟩
/-- The bytes that a slice has. -/
def Bin (w : World) (A : Option Addr) (L : List Nat) : Prop := Rds w 1 A L.length (L.map by8)
theorem by8_one (L : List Nat) : ∀ u ∈ L.map by8, u.oneCell' = true := fun u hu => by
  obtain ⟨n, _, rfl⟩ := List.mem_map.1 hu
  rfl
theorem Bin.frmN {w w' : World} {A : Option Addr} {L : List Nat} (h : Bin w A L) (f : Frm No w w') : Bin w' A L := Rds.frmN h f
theorem Bin.at_ {w : World} {A : Option Addr} {L : List Nat} (h : Bin w A L) {i : Nat} (hi : i < L.length) : ∃ ad, A = some ad ∧ ad.block < w.heap.size ∧ w.cell? (ad.add i) = some (.int .u8 (L.getD i 0 : Nat)) := by
  obtain ⟨h1, h2⟩ := h
  obtain ⟨ad, e, hb, hc⟩ := h2 (by omega)
  refine ⟨ad, e, hb, hc i _ ?_⟩
  rw [List.getElem?_map, List.getElem?_eq_getElem hi, List.getD_eq_getElem?_getD, List.getElem?_eq_getElem hi]; rfl
theorem Bin.take {w : World} {A : Option Addr} {L : List Nat} (h : Bin w A L) (i : Nat) : Bin w A (L.take i) := by
  unfold Bin at h ⊢
  by_cases hi : i ≤ L.length
  · have := Rds.take h hi
    rw [Nat.mul_one, ← List.map_take] at this
    rwa [List.length_take, Nat.min_eq_left hi]
  · rw [List.take_of_length_le (by omega)]; exact h
theorem Bin.nil (w : World) (A : Option Addr) : Bin w A [] := Rds.nil _ _ _
theorem Bin.str {w : World} {A : Option Addr} {n c : Nat} {L : List Nat} (h : Bin w A L) (hn : L.length = n) : (convert 33 9 (.slice A n c)).run Try.prog w = .ok (.string (bytesS L)) w :=
  string_is L hn fun j hj => by
    obtain ⟨ad, e, -, hc⟩ := h.at_ (i := j) (by omega)
    exact ⟨ad, e, hc⟩
theorem Bin.of_own {w : World} {B n c : Nat} {A : Option Addr} {L : List Nat} (h : w.ownsRow B 5 1 (.slice A n c) n (L.map by8)) : Bin w A L ∧ n = L.length := by
  have hn : n = L.length := by have := h.1; simp at this; omega
  subst hn
  exact ⟨Rds.of_own h, rfl⟩
theorem take_one {α : Type} {l : List α} {j : Nat} (d : α) (h : j < l.length) : l.take (j + 1) = l.take j ++ [l.getD j d] := by
  rw [List.take_succ_eq_append_getElem h, List.getD_eq_getElem?_getD, List.getElem?_eq_getElem h]; rfl
theorem getD_lt {L : List Nat} (h : ∀ c ∈ L, c < 256) (j : Nat) : L.getD j 0 < 256 := by
  rw [List.getD_eq_getElem?_getD]
  by_cases hj : j < L.length
  · rw [List.getElem?_eq_getElem hj]; exact h _ (List.getElem_mem _)
  · rw [List.getElem?_eq_none (by omega)]; decide
theorem take_lt {L : List Nat} (h : ∀ c ∈ L, c < 256) (j : Nat) : ∀ c ∈ L.take j, c < 256 := fun c hc => h c (List.mem_of_mem_take hc)
set_option maxRecDepth 100000 in
set_option maxHeartbeats 2000000 in
theorem more_is (s n c : Nat) (A : Option Addr) (L : List Nat) (w : World) (h : Bin w A L) (hn : L.length = n) (hs : s < 65536) (h256 : ∀ c ∈ L, c < 256) (hn9 : n ≤ 100000) : Calls Try.prog 42 #[.int .u16 s, .slice A n c] w fun e w' => e = .returned (.int .u16 (crc s L : Nat)) ∧ w' = w := by
  have H := Lib.hid (And.intro h (And.intro hn h256))
  clear h hn h256
  go_enter Try.func42, Try.ntmps42
  go_wp2_with fail
  go_loopw [0, 9] (fun vs vj wr => ∃ j : Nat, vj = .int .i64 j ∧ j ≤ n ∧ vs = .int .u16 (crc s (L.take j) : Nat) ∧ wr = w) (fun _ vj _ => n - (intOf vj).toNat)
  case atStart => exact ⟨0, rfl, by omega, by rw [List.take_zero]; rfl, rfl⟩
  case round =>
    obtain ⟨j, rfl, hj, rfl, rfl⟩ := hrel
    by_cases hjn : j < n
    · have j1 : (j : Int) < (n : Int) := by omega
      have j0 : (0 : Int) ≤ (j : Int) := by omega
      obtain ⟨ad, rfl, -, hc⟩ := H.out.1.at_ (i := j) (by rw [H.out.2.1]; exact hjn)
      have hb := byteOn_is (crc s (L.take j)) (L.getD j 0) wr (crc_lt _ _ hs (take_lt H.out.2.2 j)) (getD_lt H.out.2.2 j)
      rw [← crc_snoc, ← take_one 0 (by rw [H.out.2.1]; exact hjn)] at hb
      obtain ⟨x, hx⟩ : ∃ x, crc s (L.take j) = x := ⟨_, rfl⟩
      obtain ⟨y, hy⟩ : ∃ y, L.getD j 0 = y := ⟨_, rfl⟩
      obtain ⟨z, hz⟩ : ∃ z, crc s (L.take (j + 1)) = z := ⟨_, rfl⟩
      rw [hx, hy, hz] at hb
      rw [hx]
      rw [hy] at hc
      have HZ := Lib.hid hz
      clear hx hy hz
      go_wp2_with fail
      refine hb.mono ?_
      rintro e w1 ⟨rfl, rfl⟩
      go_wp2_with fail
      go_roundw
      case rel => exact ⟨j + 1, by go_num, by omega, by rw [HZ.out], by first | rfl | trivial⟩
      case measure => simp [intOf]; omega
    · have j1 : ¬ (j : Int) < (n : Int) := by omega
      have hL : L.take j = L := List.take_of_length_le (by rw [H.out.2.1]; omega)
      obtain ⟨x, hx⟩ : ∃ x, crc s L = x := ⟨_, rfl⟩
      rw [hL, hx]
      have HX := Lib.hid hx
      clear hL hx
      go_wp2_with fail
      go_ret
      exact ⟨by rw [HX.out]; rfl, rfl⟩
theorem sum_is (n c : Nat) (A : Option Addr) (L : List Nat) (w : World) (h : Bin w A L) (hn : L.length = n) (h256 : ∀ c ∈ L, c < 256) (hn9 : n ≤ 100000) : Calls Try.prog 36 #[.slice A n c] w fun e w' => e = .returned (.int .u16 (crc 65535 L : Nat)) ∧ w' = w := by
  have hm := more_is 65535 n c A L w h hn (by decide) h256 hn9
  obtain ⟨x, hx⟩ : ∃ x, crc 65535 L = x := ⟨_, rfl⟩
  rw [hx] at hm ⊢
  clear h hn hx
  go_enter Try.func36, Try.ntmps36
  go_wp2_with fail
  refine hm.mono ?_
  rintro e w1 ⟨rfl, rfl⟩
  go_wp2_with fail
  go_ret
  exact ⟨rfl, rfl⟩
end Go.Proofs.Ytcdjofneijlbgaa.A
