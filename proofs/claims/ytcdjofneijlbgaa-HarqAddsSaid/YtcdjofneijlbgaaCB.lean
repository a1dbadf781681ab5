/- Clone; a block and its sum: Close, Open. -/
import Derived.Test.YtcdjofneijlbgaaCA
import Derived.Deep.CutBlock
import Derived.Deep.DeepCutAuto
import Derived.BigQuiet
namespace Go.Proofs.Ytcdjofneijlbgaa.A
open Go.RowKit Go.Proofs.Ytcdjofneijlbgaa.K Go.Proofs.Ytcdjofneijlbgaa.F Go.Proofs.Ytcdjofneijlbgaa.N
set_option linter.unusedVariables false
set_option linter.unusedSimpArgs false

theorem own_empty (w : World) (t : TypeId) : (w.alloc (.cells #[] t)).ownsRow w.heap.size t 1 (.slice (some ⟨w.heap.size, 0, none⟩) 0 0) 0 [] := by
  have hb : Blk (w.alloc (.cells #[] t)) w.heap.size #[] t := Blk.new w #[] t
  exact ⟨rfl, .inr ⟨w.heap.size, 0, #[], rfl, Nat.le_refl _, hb, by omega, by omega, rfl, rfl⟩⟩

set_option maxRecDepth 100000 in
set_option maxHeartbeats 2000000 in
theorem cloneB (w : World) (A : Option Addr) (n c : Nat) (xs : List Value) (h : Rds w 1 A n xs) (h1 : ∀ u ∈ xs, u.oneCell' = true) (hn : n ≤ 100000) : Calls Try.prog 37 #[.slice A n c] w fun e w' => ∃ v, e = .returned v ∧ w'.ownsRow w.heap.size 5 1 v n xs ∧ Frm No w w' := by
  obtain ⟨i0, hi, hz0, hz1, hz2⟩ := info_parts info5
  cases A with
  | none =>
    have h0 : n = 0 := by
      rcases Nat.eq_zero_or_pos n with h0 | h0
      · exact h0
      · obtain ⟨ad, e, _⟩ := h.2 h0
        cases e
    subst h0
    have hL : xs = [] := List.eq_nil_of_length_eq_zero (by simpa using h.1)
    subst hL
    have he := Lib.run_eql_slice_nil (P := Try.prog) w 33 5 none 0 c 0 0 Try.underlying33
    clear h
    go_enter Try.func37, Try.ntmps37
    go_wp2_with fail
    go_ret
    exact ⟨_, rfl, World.ownsRow_nil _ _ _ _, Frm.refl _ _⟩
  | some ad =>
    have he := Lib.run_eql_slice_nil (P := Try.prog) w 33 5 (some ad) n c 0 0 Try.underlying33
    have F0 := (Frm.refl No w).alloc (.cells #[] 5)
    have own0 := own_empty w 5
    have hr2 : Rds (w.alloc (.cells #[] 5)) 1 (some ad) n xs := h.frmN F0
    have hsz : w.heap.size ≤ (w.alloc (.cells #[] 5)).heap.size := F0.size
    have H := Lib.hid (And.intro h h1)
    clear h
    go_enter Try.func37, Try.ntmps37
    go_wp2_with (at_builtin; go_must (refine wpList_append_rds _ rfl _ _ 33 rfl w.heap.size 5 i0 _ 1 1 Try.underlying33 hi hz0 hz1 hz2 rfl (by omega) (.slice (some ⟨w.heap.size, 0, none⟩) 0 0) 0 [] rfl own0 (some ad) n c xs rfl hr2 h1 (by unfold maxLen; omega) (by omega) hsz ?_; intro v3 w3 own3 hg3))
    have F3 := own_grown own0 F0 (Nat.le_refl _) hg3
    rw [Nat.zero_add, List.nil_append] at own3
    go_wp2_with fail
    go_ret
    exact ⟨v3, rfl, own3, F3⟩

set_option maxRecDepth 100000 in
set_option maxHeartbeats 2000000 in
theorem cloneC (w : World) (A : Option Addr) (n c : Nat) (xs : List Value) (h : Rds w 1 A n xs) (h1 : ∀ u ∈ xs, u.oneCell' = true) (hn : n ≤ 100000) : Calls Try.prog 20 #[.slice A n c] w fun e w' => ∃ v, e = .returned v ∧ w'.ownsRow w.heap.size 61 1 v n xs ∧ Frm No w w' := by
  obtain ⟨i0, hi, hz0, hz1, hz2⟩ := info_parts info34
  cases A with
  | none =>
    have h0 : n = 0 := by
      rcases Nat.eq_zero_or_pos n with h0 | h0
      · exact h0
      · obtain ⟨ad, e, _⟩ := h.2 h0
        cases e
    subst h0
    have hL : xs = [] := List.eq_nil_of_length_eq_zero (by simpa using h.1)
    subst hL
    have he := Lib.run_eql_slice_nil (P := Try.prog) w 38 61 none 0 c 0 0 Try.underlying38
    clear h
    go_enter Try.func20, Try.ntmps20
    go_wp2_with fail
    go_ret
    exact ⟨_, rfl, World.ownsRow_nil _ _ _ _, Frm.refl _ _⟩
  | some ad =>
    have he := Lib.run_eql_slice_nil (P := Try.prog) w 38 61 (some ad) n c 0 0 Try.underlying38
    have F0 := (Frm.refl No w).alloc (.cells #[] 61)
    have own0 := own_empty w 61
    have hr2 : Rds (w.alloc (.cells #[] 61)) 1 (some ad) n xs := h.frmN F0
    have hsz : w.heap.size ≤ (w.alloc (.cells #[] 61)).heap.size := F0.size
    have H := Lib.hid (And.intro h h1)
    clear h
    go_enter Try.func20, Try.ntmps20
    go_wp2_with (at_builtin; go_must (refine wpList_append_rds _ rfl _ _ 38 rfl w.heap.size 61 i0 _ 1 16 Try.underlying38 hi hz0 hz1 hz2 rfl (by omega) (.slice (some ⟨w.heap.size, 0, none⟩) 0 0) 0 [] rfl own0 (some ad) n c xs rfl hr2 h1 (by unfold maxLen; omega) (by omega) hsz ?_; intro v3 w3 own3 hg3))
    have F3 := own_grown own0 F0 (Nat.le_refl _) hg3
    rw [Nat.zero_add, List.nil_append] at own3
    go_wp2_with fail
    go_ret
    exact ⟨v3, rfl, own3, F3⟩

theorem new_rds2 (w : World) (a b : Value) (t : TypeId) : Rds (w.alloc (.cells #[a, b] t)) 1 (some ⟨w.heap.size, 0, none⟩) 2 [a, b] := by
  have hb : Blk (w.alloc (.cells #[a, b] t)) w.heap.size #[a, b] t := Blk.new w #[a, b] t
  refine ⟨rfl, fun _ => ⟨_, rfl, hb.lt, fun j u hu => ?_⟩⟩
  have ea : (⟨w.heap.size, 0, none⟩ : Addr).add j = ⟨w.heap.size, j, none⟩ := by unfold Addr.add; by_cases h0 : j = 0 <;> simp [h0]
  rw [ea, hb.cell, List.getElem?_toArray]
  exact hu
/-- The two bytes behind a block. -/
def clo (L : List Nat) : List Nat := L ++ [crc 65535 L / 256, crc 65535 L % 256]
theorem clo_len (L : List Nat) : (clo L).length = L.length + 2 := by unfold clo; simp
theorem clo_lt {L : List Nat} (h : ∀ c ∈ L, c < 256) : ∀ c ∈ clo L, c < 256 := fun c hc => by
  have := crc_lt L 65535 (by decide) h
  unfold clo at hc
  rcases List.mem_append.1 hc with hc | hc
  · exact h c hc
  · simp only [List.mem_cons, List.not_mem_nil, or_false] at hc
    rcases hc with rfl | rfl <;> omega
set_option maxRecDepth 100000 in
set_option maxHeartbeats 2000000 in
theorem close_is (w : World) (A : Option Addr) (n c : Nat) (L : List Nat) (h : Bin w A L) (hn : L.length = n) (h256 : ∀ c ∈ L, c < 256) (hn9 : n ≤ 90000) : Calls Try.prog 25 #[.slice A n c] w fun e w' => ∃ v, e = .returned v ∧ RowB w' w.heap.size v (clo L) ∧ Frm No w w' := by
  obtain ⟨i0, hi, hz0, hz1, hz2⟩ := info_parts info5
  have hs := sum_is n c A L w h hn h256 (by omega)
  have hc2 := cloneB w A n c (L.map by8) (by rw [← hn]; exact h) (by8_one L) (by omega)
  have hx := crc_lt L 65535 (by decide) h256
  have hcl : clo L = L ++ [crc 65535 L / 256, crc 65535 L % 256] := rfl
  obtain ⟨x, hxx⟩ : ∃ x, crc 65535 L = x := ⟨_, rfl⟩
  rw [hxx] at hs hx hcl
  rw [hcl]
  have H := Lib.hid (And.intro h hn)
  have x0 : (0 : Int) ≤ (x : Int) := by omega
  have x1 : (x : Int) ≤ 65535 := by omega
  clear h hn hxx hcl h256
  go_enter Try.func25, Try.ntmps25
  go_wp2_with fail
  refine hs.mono ?_
  rintro e w1 ⟨rfl, rfl⟩
  go_wp2_with fail
  refine hc2.mono ?_
  rintro e w2 ⟨v, rfl, own, F⟩
  obtain ⟨A2, c2, rfl, -, -⟩ := own_is own
  have own1 := own.alloc (.cells #[.int .u8 ((x : Int) / 256), .int .u8 ((x : Int) % 256)] 5)
  have hrd := new_rds2 w2 (.int .u8 ((x : Int) / 256)) (.int .u8 ((x : Int) % 256)) 5
  have F1 := F.alloc (.cells #[.int .u8 ((x : Int) / 256), .int .u8 ((x : Int) % 256)] 5)
  have hsz : w1.heap.size ≤ (w2.alloc (.cells #[.int .u8 ((x : Int) / 256), .int .u8 ((x : Int) % 256)] 5)).heap.size := F1.size
  clear own F hs hc2
  go_wp2_with (at_builtin; go_must (refine wpList_append_rds _ rfl _ _ 33 rfl w1.heap.size 5 i0 _ 1 1 Try.underlying33 hi hz0 hz1 hz2 rfl (by omega) (.slice A2 n c2) n (L.map by8) rfl own1 (some ⟨w2.heap.size, 0, none⟩) 2 2 [.int .u8 ((x : Int) / 256), .int .u8 ((x : Int) % 256)] rfl hrd (by simp [Value.oneCell']) (by unfold maxLen; omega) (by omega) hsz ?_; intro v3 w3 own3 hg3))
  have F3 := own_grown own1 F1 (Nat.le_refl _) hg3
  go_wp2_with fail
  go_ret
  refine ⟨v3, rfl, ?_, F3⟩
  unfold RowB
  rw [List.length_append, H.out.2, List.map_append]
  exact own3
set_option maxRecDepth 100000 in
set_option maxHeartbeats 2000000 in
theorem equal_is (w : World) (A B : Option Addr) (n m c d : Nat) (L M : List Nat) (h : Bin w A L) (h' : Bin w B M) (hn : L.length = n) (hm : M.length = m) (hn9 : n ≤ 100000) (hm9 : m ≤ 100000) : Calls Try.prog 41 #[.slice A n c, .slice B m d] w fun e w' => e = .returned (.bool (decide (L = M))) ∧ Frm No w w' := by
  obtain ⟨t, ht⟩ : ∃ t, decide (L = M) = t := ⟨_, rfl⟩
  rw [ht]
  by_cases hnm : n = m
  · subst hnm
    have H := Lib.hid (And.intro h (And.intro h' (And.intro hn (And.intro hm ht))))
    clear h h' hn hm ht
    go_enter Try.func41, Try.ntmps41
    go_wp2_with fail
    go_loopw [13] (fun vj wr => ∃ j : Nat, vj = .int .i64 j ∧ j ≤ n ∧ (∀ q, q < j → L.getD q 0 = M.getD q 0) ∧ Frm No w wr) (fun vj _ => n - (intOf vj).toNat)
    case atStart => exact ⟨0, rfl, by omega, fun q hq => absurd hq (by omega), Frm.refl _ _⟩
    case round =>
      obtain ⟨j, rfl, hj, hq, F⟩ := hrel
      have HQ := Lib.hid hq
      clear hq
      by_cases hjn : j < n
      · have j1 : (j : Int) < (n : Int) := by omega
        have j0 : (0 : Int) ≤ (j : Int) := by omega
        obtain ⟨ad, rfl, -, hc⟩ := (H.out.1.frmN F).at_ (i := j) (by rw [H.out.2.2.1]; exact hjn)
        obtain ⟨ad', rfl, -, hc'⟩ := (H.out.2.1.frmN F).at_ (i := j) (by rw [H.out.2.2.2.1]; exact hjn)
        by_cases hxy : L.getD j 0 = M.getD j 0
        · have HXY := Lib.hid hxy
          rw [← hxy] at hc'
          obtain ⟨x, hx⟩ : ∃ x, L.getD j 0 = x := ⟨_, rfl⟩
          rw [hx] at hc hc'
          clear hxy hx
          go_wp2_with fail
          go_quiet (fail)
          go_wp2_with fail
          go_roundw
          case rel => exact ⟨j + 1, by go_num, by omega, fun q hq => by
            rcases Nat.lt_or_ge q j with h | h
            · exact HQ.out q h
            · have : q = j := by omega
              subst this; exact HXY.out, F.drewN _⟩
          case measure => simp [intOf]; omega
        · have HXY := Lib.hid hxy
          obtain ⟨x, hx⟩ : ∃ x, L.getD j 0 = x := ⟨_, rfl⟩
          obtain ⟨y, hy⟩ : ∃ y, M.getD j 0 = y := ⟨_, rfl⟩
          rw [hx] at hc
          rw [hy] at hc'
          have hb : ((x : Int) != (y : Int)) = true := by rw [bne_iff_ne]; intro e; exact hxy (by rw [hx, hy]; omega)
          clear hxy hx hy
          go_wp2_with fail
          go_quiet (fail)
          go_wp2_with fail
          go_ret
          have htf : t = false := by
            rw [← H.out.2.2.2.2, decide_eq_false_iff_not]
            intro e
            exact HXY.out (by rw [e])
          exact ⟨by rw [htf]; rfl, F.drewN _⟩
      · have j1 : ¬ (j : Int) < (n : Int) := by omega
        go_wp2_with fail
        go_ret
        have htt : t = true := by
          rw [← H.out.2.2.2.2, decide_eq_true_eq]
          refine List.ext_getElem (by rw [H.out.2.2.1, H.out.2.2.2.1]) fun q h1 h2 => ?_
          have h3 := H.out.2.2.1
          have h4 := HQ.out q (by omega)
          rw [List.getD_eq_getElem?_getD, List.getD_eq_getElem?_getD, List.getElem?_eq_getElem h1, List.getElem?_eq_getElem h2] at h4
          exact h4
        exact ⟨by rw [htt]; rfl, F⟩
  · have htf : t = false := by
      rw [← ht, decide_eq_false_iff_not]
      intro e
      exact hnm (by rw [← hn, ← hm, e])
    have hb : ((n : Int) != (m : Int)) = true := by rw [bne_iff_ne]; omega
    clear h h' hn hm ht
    subst htf
    go_enter Try.func41, Try.ntmps41
    go_wp2_with fail
    go_ret
    exact ⟨rfl, Frm.refl _ _⟩
end Go.Proofs.Ytcdjofneijlbgaa.A
