/- Open; the document's More, Close, Open. -/
import Derived.Test.YtcdjofneijlbgaaCB
import Derived.Test.YtcdjofneijlbgaaRN
namespace Go.Proofs.Ytcdjofneijlbgaa.A
open Go.RowKit Go.Proofs.Ytcdjofneijlbgaa.K Go.Proofs.Ytcdjofneijlbgaa.F Go.Proofs.Ytcdjofneijlbgaa.N
set_option linter.unusedVariables false
set_option linter.unusedSimpArgs false

def opE (L : List Nat) : Int := if L.length < 2 then 8 else if clo (L.take (L.length - 2)) = L then 0 else 13
def opL (L : List Nat) : List Nat := if opE L = 0 then L.take (L.length - 2) else []
theorem Bin.of_row {w : World} {B : Nat} {v : Value} {L : List Nat} (h : RowB w B v L) : ∃ A c, v = .slice A L.length c ∧ Bin w A L := by
  obtain ⟨A, c, rfl, -, hr⟩ := own_is h
  exact ⟨A, c, rfl, hr⟩
set_option maxRecDepth 100000 in
set_option maxHeartbeats 2000000 in
theorem open_is (w : World) (A : Option Addr) (n c : Nat) (L : List Nat) (h : Bin w A L) (hn : L.length = n) (hnc : n ≤ c) (h256 : ∀ c ∈ L, c < 256) (hn9 : n ≤ 90000) : Calls Try.prog 31 #[.slice A n c] w fun e w' => ∃ v, e = .returned (.tuple #[v, .int .i64 (opE L)]) ∧ RowB w' w.heap.size v (opL L) ∧ Frm No w w' := by
  by_cases h2 : n < 2
  · have hE : opE L = 8 := if_pos (by omega)
    have hO : opL L = [] := by unfold opL; rw [hE, if_neg (by decide)]
    rw [hE, hO]
    have i0 : (n : Int) - 2 < 0 := by omega
    clear h h256 hE hO
    go_enter Try.func31, Try.ntmps31
    go_wp2_with fail
    go_ret2
    exact ⟨_, rfl, World.ownsRow_nil _ _ _ _, Frm.refl _ _⟩
  · obtain ⟨m, rfl⟩ : ∃ m, n = m + 2 := ⟨n - 2, by omega⟩
    have hE : opE L = if clo (L.take m) = L then 0 else 13 := by
      unfold opE
      rw [if_neg (by omega), show L.length - 2 = m by omega]
    have hO : opL L = if opE L = 0 then L.take m else [] := by unfold opL; rw [show L.length - 2 = m by omega]
    have hlt : (L.take m).length = m := by rw [List.length_take]; omega
    have hcl := close_is w A m c (L.take m) (h.take m) hlt (take_lt h256 m) (by omega)
    have hcn := fun w' (f : Frm No w w') => cloneB w' A m c ((L.take m).map by8) (by have := (h.take m).frmN f; unfold Bin at this; rwa [hlt] at this) (by8_one _) (by omega)
    have hcll := clo_len (L.take m)
    rw [hlt] at hcll
    have H := Lib.hid (And.intro h (And.intro hn (And.intro hE (And.intro hO (And.intro hcn (And.intro hlt hcll))))))
    have m0 : ¬ ((m + 2 : Nat) : Int) - 2 < 0 := by omega
    have m1 : ((m + 2 : Nat) : Int) - 2 = (m : Int) := by omega
    clear h hn hE hO hcn hcll hlt
    go_enter Try.func31, Try.ntmps31
    go_wp2_with fail
    refine hcl.mono ?_
    rintro e w1 ⟨v1, rfl, R1, F1⟩
    obtain ⟨A1, c1, rfl, hb1⟩ := Bin.of_row R1
    rw [H.out.2.2.2.2.2.2]
    have heq := equal_is w1 A1 A (m + 2) (m + 2) c1 c (clo (L.take m)) L hb1 (H.out.1.frmN F1) H.out.2.2.2.2.2.2 H.out.2.1 (by omega) (by omega)
    obtain ⟨t, ht⟩ : ∃ t, decide (clo (L.take m) = L) = t := ⟨_, rfl⟩
    rw [ht] at heq
    clear hcl R1 hb1
    go_wp2_with fail
    refine heq.mono ?_
    rintro e w2 ⟨rfl, F2⟩
    cases t with
    | true =>
      have hE2 : opE L = 0 := by rw [H.out.2.2.1, if_pos (of_decide_eq_true ht)]
      have hO2 : opL L = L.take m := by rw [H.out.2.2.2.1, if_pos hE2]
      have HE := Lib.hid (And.intro hE2 hO2)
      have HH := Lib.hid (H.out.2.2.2.2.1 w2 (F1.thenN F2))
      clear ht hE2 hO2 heq
      go_wp2_with fail
      refine HH.out.mono ?_
      rintro e w3 ⟨v3, rfl, own3, F3⟩
      go_wp2_with fail
      go_ret2
      rw [HE.out.1, HE.out.2]
      refine ⟨v3, rfl, ?_, (F1.thenN F2).thenN F3⟩
      unfold RowB
      rw [H.out.2.2.2.2.2.1]
      exact own_lower own3 (by have := (F1.thenN F2).size; omega)
    | false =>
      have hE2 : opE L = 13 := by rw [H.out.2.2.1, if_neg (of_decide_eq_false ht)]
      have hO2 : opL L = [] := by rw [H.out.2.2.2.1, hE2, if_neg (by decide)]
      have HE := Lib.hid (And.intro hE2 hO2)
      clear ht hE2 hO2 heq
      go_wp2_with fail
      go_ret2
      rw [HE.out.1, HE.out.2]
      exact ⟨_, rfl, World.ownsRow_nil _ _ _ _, F1.thenN F2⟩
set_option maxRecDepth 100000 in
set_option maxHeartbeats 4000000 in
theorem rmore_is (s n c : Nat) (A : Option Addr) (L : List Nat) (w : World) (h : Bin w A L) (hn : L.length = n) (hs : s < 65536) (h256 : ∀ c ∈ L, c < 256) (hn9 : n ≤ 100000) : Calls Try.prog 38 #[.int .u16 s, .slice A n c] w fun e w' => e = .returned (.int .u16 (crc s L : Nat)) ∧ w' = w := by
  have H := Lib.hid (And.intro h (And.intro hn h256))
  have s0 : (0 : Int) ≤ (s : Int) := by omega
  have s1 : (s : Int) ≤ 65535 := by omega
  clear h hn h256
  go_enter Try.func38, Try.ntmps38
  go_wp2_with fail
  go_loopw [5, 6] (fun vs vj wr => ∃ j : Nat, vj = .int .i64 j ∧ j ≤ n ∧ vs = .int .u32 (crc s (L.take j) : Nat) ∧ wr = w) (fun _ vj _ => n - (intOf vj).toNat)
  case atStart => exact ⟨0, rfl, by omega, by rw [List.take_zero]; rfl, rfl⟩
  case round =>
    obtain ⟨j, rfl, hj, rfl, rfl⟩ := hrel
    by_cases hjn : j < n
    · have j1 : (j : Int) < (n : Int) := by omega
      have j0 : (0 : Int) ≤ (j : Int) := by omega
      obtain ⟨ad, rfl, -, hc⟩ := H.out.1.at_ (i := j) (by rw [H.out.2.1]; exact hjn)
      have hx1 := crc_lt (L.take j) s hs (take_lt H.out.2.2 j)
      have hy1 := getD_lt H.out.2.2 j
      have hz1 := crc_snoc s (L.take j) (L.getD j 0)
      rw [← take_one 0 (by rw [H.out.2.1]; exact hjn)] at hz1
      obtain ⟨x, hx⟩ : ∃ x, crc s (L.take j) = x := ⟨_, rfl⟩
      obtain ⟨y, hy⟩ : ∃ y, L.getD j 0 = y := ⟨_, rfl⟩
      rw [hx, hy] at hz1
      rw [hx] at hx1 ⊢
      rw [hy] at hc hy1
      have e0 : bits .xor .u32 (x : Int) (256 * (y : Int)) = ((x ^^^ (256 * y) : Nat) : Int) := by
        have := xor_u32 (x := x) (y := 256 * y) hx1 (by omega)
        rw [← this]; congr 1
      obtain ⟨z, hz⟩ : ∃ z, x ^^^ (256 * y) = z := ⟨_, rfl⟩
      have hzl : z < 65536 := by rw [← hz]; exact xor_lt16 hx1 (by omega)
      rw [hz] at e0
      have hz2 : crc s (L.take (j + 1)) = stN 8 z := by rw [hz1]; unfold on; rw [hz]
      have HZ := Lib.hid hz2
      have y0 : (0 : Int) ≤ (y : Int) := by omega
      have y1 : (y : Int) ≤ 255 := by omega
      clear hx hy hz hz1 hz2
      go_wp2_with fail
      go_loopw [5, 7] (fun vv vk w2 => ∃ q : Nat, vk = .int .i64 q ∧ q ≤ 8 ∧ vv = .int .u32 (stN q z : Nat) ∧ w2 = wr) (fun _ vk _ => 8 - (intOf vk).toNat)
      case atStart => exact ⟨0, rfl, by omega, rfl, rfl⟩
      case round =>
        obtain ⟨q, rfl, hq, rfl, rfl⟩ := hrel
        by_cases hq8 : q < 8
        · have q1 : (q : Int) < 8 := by omega
          have HV := stN_lt hzl q
          obtain ⟨v, hv⟩ : ∃ v, stN q z = v := ⟨_, rfl⟩
          have HSJ := Lib.hid (show ((stN (q + 1) z : Nat) : Int) = ((st v : Nat) : Int) from by rw [← hv]; rfl)
          rw [hv] at HV ⊢
          have v0 : (0 : Int) ≤ (v : Int) := by omega
          have v1 : (v : Int) ≤ 65535 := by omega
          clear hv
          by_cases ht : 32768 ≤ v
          · have hx : bits .xor .u32 (2 * (v : Int) - 65536) 4129 = ((st v : Nat) : Int) := by
              have := xor_u32 (x := 2 * v - 65536) (y := 4129) (by omega) (by omega)
              have e : (2 * (v : Int) - 65536) = ((2 * v - 65536 : Nat) : Int) := by omega
              unfold st
              rw [if_pos ht, e]; exact this
            have h2 : (65536 : Int) ≤ 2 * (v : Int) := by omega
            clear ht
            go_wp2_with fail
            go_roundw
            case rel => exact ⟨q + 1, by go_num, by omega, by rw [HSJ.out], by first | rfl | trivial⟩
            case measure => simp [intOf]; omega
          · have h2 : ¬ (65536 : Int) ≤ 2 * (v : Int) := by omega
            have hst : ((st v : Nat) : Int) = 2 * (v : Int) := by unfold st; rw [if_neg ht]; push_cast; rfl
            have HS := Lib.hid hst
            clear ht hst
            go_wp2_with fail
            go_roundw
            case rel => exact ⟨q + 1, by go_num, by omega, by rw [HSJ.out, HS.out], by first | rfl | trivial⟩
            case measure => simp [intOf]; omega
        · have q1 : ¬ (q : Int) < 8 := by omega
          obtain rfl : q = 8 := by omega
          obtain ⟨v, hv⟩ : ∃ v, stN 8 z = v := ⟨_, rfl⟩
          rw [hv]
          have HV2 := Lib.hid hv
          clear hv
          go_wp2_with fail
          go_roundw
          case rel => exact ⟨j + 1, by go_num, by omega, by rw [HZ.out, HV2.out], by first | rfl | trivial⟩
          case measure => simp [intOf]; omega
    · have j1 : ¬ (j : Int) < (n : Int) := by omega
      have hL : L.take j = L := List.take_of_length_le (by rw [H.out.2.1]; omega)
      have hx1 := crc_lt L s hs H.out.2.2
      obtain ⟨x, hx⟩ : ∃ x, crc s L = x := ⟨_, rfl⟩
      rw [hx] at hx1
      rw [hL, hx]
      have HX := Lib.hid hx
      have x0 : (0 : Int) ≤ (x : Int) := by omega
      have x1 : (x : Int) ≤ 65535 := by omega
      clear hL hx
      go_wp2_with fail
      go_ret
      exact ⟨by rw [HX.out]; rfl, rfl⟩
set_option maxRecDepth 100000 in
set_option maxHeartbeats 2000000 in
theorem rclose_is (w : World) (A : Option Addr) (n c : Nat) (L : List Nat) (h : Bin w A L) (hn : L.length = n) (h256 : ∀ c ∈ L, c < 256) (hn9 : n ≤ 90000) : Calls Try.prog 27 #[.slice A n c] w fun e w' => ∃ v, e = .returned v ∧ RowB w' w.heap.size v (clo L) ∧ Frm No w w' := by
  obtain ⟨i0, hi, hz0, hz1, hz2⟩ := info_parts info5
  have hs := rmore_is 65535 n c A L w h hn (by decide) h256 (by omega)
  have hx := crc_lt L 65535 (by decide) h256
  have hcl : clo L = L ++ [crc 65535 L / 256, crc 65535 L % 256] := rfl
  obtain ⟨x, hxx⟩ : ∃ x, crc 65535 L = x := ⟨_, rfl⟩
  rw [hxx] at hs hx hcl
  rw [hcl]
  have H := Lib.hid (And.intro h hn)
  have hrd0 : Rds w 1 A n (L.map by8) := by rw [← hn]; exact h
  have x0 : (0 : Int) ≤ (x : Int) := by omega
  have x1 : (x : Int) ≤ 65535 := by omega
  have own0 : w.ownsRow w.heap.size 5 1 (.slice none 0 0) 0 [] := World.ownsRow_nil _ _ _ _
  clear h hn hxx hcl h256
  go_enter Try.func27, Try.ntmps27
  go_wp2_with fail
  refine hs.mono ?_
  rintro e w1 ⟨rfl, rfl⟩
  go_upto_region 4 with (at_builtin; go_must (refine wpList_append_rds _ rfl _ _ 33 rfl w1.heap.size 5 i0 _ 1 1 Try.underlying33 hi hz0 hz1 hz2 rfl (by omega) (.slice none 0 0) 0 [] rfl own0 A n c (L.map by8) rfl hrd0 (by8_one L) (by unfold maxLen; omega) (by omega) (Nat.le_refl _) ?_; intro v2 w2 own2 hg2))
  have F2 := own_grown own0 (Frm.refl No w1) (Nat.le_refl _) hg2
  rw [Nat.zero_add, List.nil_append] at own2
  obtain ⟨A2, c2, rfl, -, -⟩ := own_is own2
  have own3 := own2.alloc (.cells #[.int .u8 ((x : Int) / 256), .int .u8 ((x : Int) % 256)] 5)
  have hrd := new_rds2 w2 (.int .u8 ((x : Int) / 256)) (.int .u8 ((x : Int) % 256)) 5
  have F3 := F2.alloc (.cells #[.int .u8 ((x : Int) / 256), .int .u8 ((x : Int) % 256)] 5)
  have hsz : w1.heap.size ≤ (w2.alloc (.cells #[.int .u8 ((x : Int) / 256), .int .u8 ((x : Int) % 256)] 5)).heap.size := F3.size
  clear own2 F2 hs hrd0 own0 hg2
  go_wp2_with (at_builtin; go_must (refine wpList_append_rds _ rfl _ _ 33 rfl w1.heap.size 5 i0 _ 1 1 Try.underlying33 hi hz0 hz1 hz2 rfl (by omega) (.slice A2 n c2) n (L.map by8) rfl own3 (some ⟨w2.heap.size, 0, none⟩) 2 2 [.int .u8 ((x : Int) / 256), .int .u8 ((x : Int) % 256)] rfl hrd (by simp [Value.oneCell']) (by unfold maxLen; omega) (by omega) hsz ?_; intro v5 w5 own5 hg5))
  have F5 := own_grown own3 F3 (Nat.le_refl _) hg5
  go_wp2_with fail
  go_ret
  refine ⟨v5, rfl, ?_, F5⟩
  unfold RowB
  rw [List.length_append, H.out.2, List.map_append]
  exact own5
theorem push_all : ∀ (l : List Int) (r : ByteArray), (l.foldl (fun r n => r.push (UInt8.ofNat n.toNat)) r).data.toList = r.data.toList ++ l.map fun n => UInt8.ofNat n.toNat
  | [], r => by simp
  | n :: l, r => by
    rw [List.foldl_cons, push_all l, List.map_cons]
    simp [ByteArray.push]
theorem bytesS_list (l : List Nat) : (bytesS l).toList = l.map fun n => UInt8.ofNat n := by
  rw [ByteArray.toList_eq]
  unfold bytesS
  rw [push_all, List.map_map]
  simp [Function.comp_def]
theorem map_inj256 : ∀ (l m : List Nat), (∀ c ∈ l, c < 256) → (∀ c ∈ m, c < 256) → (l.map fun n => UInt8.ofNat n) = (m.map fun n => UInt8.ofNat n) → l = m
  | [], [], _, _, _ => rfl
  | [], _ :: _, _, _, h => by simp at h
  | _ :: _, [], _, _, h => by simp at h
  | a :: l, b :: m, h1, h2, h => by
    rw [List.map_cons, List.map_cons] at h
    injection h with h3 h4
    have ha := h1 a (by simp)
    have hb := h2 b (by simp)
    have e : a = b := by
      have := congrArg UInt8.toNat h3
      rwa [UInt8.toNat_ofNat', UInt8.toNat_ofNat', Nat.mod_eq_of_lt (by omega), Nat.mod_eq_of_lt (by omega)] at this
    rw [e, map_inj256 l m (fun c hc => h1 c (by simp [hc])) (fun c hc => h2 c (by simp [hc])) h4]
theorem bytesS_ne {l m : List Nat} (h1 : ∀ c ∈ l, c < 256) (h2 : ∀ c ∈ m, c < 256) (hne : l ≠ m) : ((bytesS l).toList == (bytesS m).toList) = false := by
  rw [bytesS_list, bytesS_list]
  exact beq_false_of_ne fun e => hne (map_inj256 l m h1 h2 e)
set_option maxRecDepth 100000 in
set_option maxHeartbeats 2000000 in
theorem ropen_is (w : World) (A : Option Addr) (n c : Nat) (L : List Nat) (h : Bin w A L) (hn : L.length = n) (hnc : n ≤ c) (h256 : ∀ c ∈ L, c < 256) (hn9 : n ≤ 90000) : Calls Try.prog 34 #[.slice A n c] w fun e w' => ∃ A' c', e = .returned (.tuple #[.slice A' (opL L).length c', .int .i64 (opE L)]) ∧ Bin w' A' (opL L) ∧ (opL L).length ≤ c' ∧ Frm No w w' := by
  by_cases h2 : n < 2
  · have hE : opE L = 8 := if_pos (by omega)
    have hO : opL L = [] := by unfold opL; rw [hE, if_neg (by decide)]
    rw [hE, hO]
    have i0 : (n : Int) < 2 := by omega
    clear h h256 hE hO
    go_enter Try.func34, Try.ntmps34
    go_wp2_with fail
    go_ret2
    exact ⟨none, 0, rfl, Bin.nil _ _, Nat.le_refl _, Frm.refl _ _⟩
  · obtain ⟨m, rfl⟩ : ∃ m, n = m + 2 := ⟨n - 2, by omega⟩
    have hE : opE L = if clo (L.take m) = L then 0 else 13 := by
      unfold opE
      rw [if_neg (by omega), show L.length - 2 = m by omega]
    have hO : opL L = if opE L = 0 then L.take m else [] := by unfold opL; rw [show L.length - 2 = m by omega]
    have hlt : (L.take m).length = m := by rw [List.length_take]; omega
    have hcl := fun w' (f : Frm No w w') => rclose_is w' A m c (L.take m) ((h.take m).frmN f) hlt (take_lt h256 m) (by omega)
    have hcll := clo_len (L.take m)
    rw [hlt] at hcll
    have H := Lib.hid (And.intro h (And.intro hn (And.intro hE (And.intro hO (And.intro hcl (And.intro hlt hcll))))))
    have m0 : ¬ ((m + 2 : Nat) : Int) < 2 := by omega
    have m1 : ((m + 2 : Nat) : Int) - 2 = (m : Int) := by omega
    have mc0 : (0 : Int) ≤ (m : Int) := by omega
    have mc1 : (m : Int) ≤ (c : Int) := by omega
    have pw : IntKind.i64.wrap (m : Int) = (m : Int) := IntWalk.i64_in _ ⟨by omega, by omega⟩
    clear h hn hE hO hcl hcll hlt
    go_enter Try.func34, Try.ntmps34
    go_wp2_with fail
    refine wp_region_N (S := fun w' => (convert 33 9 (.slice A (m + 2) c)).run Try.prog w' = .ok (.string (bytesS L)) w') 99 (by kernel_rfl) ((H.out.1.frmN (Frm.refl No w).drew).str H.out.2.1) (fun hHeld => ?_)
    refine wpAnyN_take (i := 0) (v := ?rnv34r3_0) rfl (by kernel_rfl) (by kernel_rfl) (by kernel_rfl) (fun _ _ _ h => h) (by decide) (by kernel_rfl) (Or.inl ⟨by rfl, ?rny34r3_0⟩) (by assumption) ?rnr34r3_0
    case rny34r3_0 => (intro w hSw; (try dsimp only at hSw); go_simp; try with_reducible rfl)
    try simp only [Act.put, List.setIfInBounds_toArray, List.set_cons_zero, List.set_cons_succ, List.getElem_toArray, List.getElem_cons_zero, List.getElem_cons_succ]
    refine wpAnyN_take (i := 1) (v := ?rnv34r3_1) rfl (by kernel_rfl) (by kernel_rfl) (by kernel_rfl) (fun _ _ _ h => h) (by decide) (by kernel_rfl) (Or.inl ⟨by rfl, ?rny34r3_1⟩) (by assumption) ?rnr34r3_1
    case rny34r3_1 => (intro w hSw; (try dsimp only at hSw); go_simp; try with_reducible rfl)
    try simp only [Act.put, List.setIfInBounds_toArray, List.set_cons_zero, List.set_cons_succ, List.getElem_toArray, List.getElem_cons_zero, List.getElem_cons_succ]
    refine wpAnyN_take (i := 2) (v := ?rnv34r3_2) rfl (by kernel_rfl) (by kernel_rfl) (by kernel_rfl) (fun _ _ _ h => h) (by decide) (by kernel_rfl) (Or.inl ⟨by rfl, ?rny34r3_2⟩) (by assumption) ?rnr34r3_2
    case rny34r3_2 => (intro w hSw; (try dsimp only at hSw); go_simp; try with_reducible rfl)
    try simp only [Act.put, List.setIfInBounds_toArray, List.set_cons_zero, List.set_cons_succ, List.getElem_toArray, List.getElem_cons_zero, List.getElem_cons_succ]
    refine wpAnyN_take (i := 3) (v := ?rnv34r3_3) rfl (by kernel_rfl) (by kernel_rfl) (by kernel_rfl) (fun _ _ _ h => h) (by decide) (by kernel_rfl) (Or.inl ⟨by rfl, ?rny34r3_3⟩) (by assumption) ?rnr34r3_3
    case rny34r3_3 => (intro w hSw; (try dsimp only at hSw); go_simp; try with_reducible rfl)
    try simp only [Act.put, List.setIfInBounds_toArray, List.set_cons_zero, List.set_cons_succ, List.getElem_toArray, List.getElem_cons_zero, List.getElem_cons_succ]
    refine wpAnyN_take (i := 4) (v := ?rnv34r3_4) rfl (by kernel_rfl) (by kernel_rfl) (by kernel_rfl) (fun _ _ _ h => h) (by decide) (by kernel_rfl) (Or.inl ⟨by rfl, ?rny34r3_4⟩) (by assumption) ?rnr34r3_4
    case rny34r3_4 => (intro w hSw; (try dsimp only at hSw); go_simp; try with_reducible rfl)
    try simp only [Act.put, List.setIfInBounds_toArray, List.set_cons_zero, List.set_cons_succ, List.getElem_toArray, List.getElem_cons_zero, List.getElem_cons_succ]
    refine wpAnyN_take (i := 7) (v := ?rnv34r3_7) rfl (by kernel_rfl) (by kernel_rfl) (by kernel_rfl) (fun _ _ _ h => h) (by decide) (by kernel_rfl) (Or.inl ⟨by rfl, ?rny34r3_7⟩) (by assumption) ?rnr34r3_7
    case rny34r3_7 => (intro w hSw; (try dsimp only at hSw); go_simp; try with_reducible rfl)
    try simp only [Act.put, List.setIfInBounds_toArray, List.set_cons_zero, List.set_cons_succ, List.getElem_toArray, List.getElem_cons_zero, List.getElem_cons_succ]
    refine wpAnyN_take (i := 8) (v := ?rnv34r3_8) rfl (by kernel_rfl) (by kernel_rfl) (by kernel_rfl) (fun _ _ _ h => h) (by decide) (by kernel_rfl) (Or.inl ⟨by rfl, ?rny34r3_8⟩) (by assumption) ?rnr34r3_8
    case rny34r3_8 => (intro w hSw; (try dsimp only at hSw); go_simp; try with_reducible rfl)
    try simp only [Act.put, List.setIfInBounds_toArray, List.set_cons_zero, List.set_cons_succ, List.getElem_toArray, List.getElem_cons_zero, List.getElem_cons_succ]
    refine wpAnyN_one (i := 5) (by kernel_rfl) rfl (fun K hK => ?_)
    go_simp
    refine (H.out.2.2.2.2.1 _ (Frm.refl No w).drew).mono ?_
    rintro e w1 ⟨v1, rfl, R1, F1⟩
    obtain ⟨A1, c1, rfl, hb1⟩ := Bin.of_row R1
    rw [H.out.2.2.2.2.2.2]
    have F1' := (Frm.refl No w).drew.thenN F1
    have s1 := hb1.str (c := c1) H.out.2.2.2.2.2.2
    have s2 := (H.out.1.frmN F1').str (c := c) H.out.2.1
    clear R1 hb1
    go_wp2_with fail
    refine hK.out _ _ (fun _ => ?_) (fun hHeld => ?_)
    · exact s2
    have hHeld := hHeld (by decide)
    clear hK K
    try simp only [Act.put, List.setIfInBounds_toArray, List.set_cons_zero, List.set_cons_succ, List.getElem_toArray, List.getElem_cons_zero, List.getElem_cons_succ]
    refine wpAnyN_one (i := 6) (by kernel_rfl) rfl (fun K hK => ?_)
    go_simp
    refine hK.out _ _ (fun _ => ?_) (fun hHeld => ?_)
    · exact s2
    have hHeld := hHeld (by decide)
    clear hK K
    try simp only [Act.put, List.setIfInBounds_toArray, List.set_cons_zero, List.set_cons_succ, List.getElem_toArray, List.getElem_cons_zero, List.getElem_cons_succ]
    refine wpAnyN_one (i := 9) (by kernel_rfl) rfl (fun K hK => ?_)
    go_simp
    refine hK.out _ _ (fun _ => ?_) (fun hHeld => ?_)
    · exact s2
    have hHeld := hHeld (by decide)
    clear hK K
    try simp only [Act.put, List.setIfInBounds_toArray, List.set_cons_zero, List.set_cons_succ, List.getElem_toArray, List.getElem_cons_zero, List.getElem_cons_succ]
    refine wpAnyN_done (by kernel_rfl) ?_ _
    by_cases hX : clo (L.take m) = L
    · have hE2 : opE L = 0 := by rw [H.out.2.2.1, if_pos hX]
      have hO2 : opL L = L.take m := by rw [H.out.2.2.2.1, if_pos hE2]
      have HE := Lib.hid (And.intro hE2 (And.intro hO2 hX))
      have hb : ((bytesS (clo (L.take m))).toList == (bytesS L).toList) = true := by rw [hX]; exact beq_self_eq_true _
      simp only [hb, Bool.not_true]
      clear hE2 hO2 hX s1
      go_wp2_with fail
      go_ret2
      rw [HE.out.1, HE.out.2.1, H.out.2.2.2.2.2.1]
      exact ⟨A, c, rfl, (H.out.1.take m).frmN F1', by omega, F1'⟩
    · have hE2 : opE L = 13 := by rw [H.out.2.2.1, if_neg hX]
      have hO2 : opL L = [] := by rw [H.out.2.2.2.1, hE2, if_neg (by decide)]
      have HE := Lib.hid (And.intro hE2 hO2)
      have hb := bytesS_ne (clo_lt (take_lt h256 m)) h256 hX
      simp only [hb, Bool.not_false]
      clear hE2 hO2 hX
      go_wp2_with fail
      go_ret2
      rw [HE.out.1, HE.out.2]
      exact ⟨none, 0, rfl, Bin.nil _ _, Nat.le_refl _, F1'⟩
end Go.Proofs.Ytcdjofneijlbgaa.A
