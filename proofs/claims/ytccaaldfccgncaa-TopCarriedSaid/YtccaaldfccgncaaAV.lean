/- alive07. -/
import Derived.Test.YtccaaldfccgncaaST
import Derived.Lib.SlBytesConst
namespace Go.Proofs.Ytccaaldfccgncaa.A
open Go.RowKit Go.Proofs.Ytccaaldfccgncaa.K
set_option linter.unusedVariables false
set_option linter.unusedSimpArgs false

theorem ab_5 : bytesS [97, 98] = ⟨#[97, 98]⟩ := by decide +kernel
theorem ab_gs : gPut 0 [[97, 98]] (gStart none 0 false) 1 = ⟨none, 0, [[97, 98]]⟩ := rfl
theorem ab_3 : ∀ i, i < 1 → ((fH (gPut 0 [[97, 98]] (gStart none 0 false) i).h ([[97, 98]].getD i []) (bgOf 0 i)).getD []).length ≤ 1000 := by
  intro i hi
  obtain rfl : i = 0 := by omega
  decide
theorem cut_ab {id : Int} {A : Option Addr} {c : Nat} {O : List (List Nat)} {fi : Nat} {T' : List Tx} {tk' : Nat} (h : Cut [⟨id, A, c, [97, 98]⟩] 0 9 O fi T' tk') : O = [[97, 98]] ∧ fi = 0 := by
  obtain ⟨m, k, h24, hm, k1, k2, rfl, rfl, rfl, rfl, hr, hx⟩ := h
  obtain rfl : m = 0 := by simp at hm; exact hm
  have ec : chk [⟨id, A, c, [97, 98]⟩] 0 0 = [97, 98] := rfl
  have ep : pre [⟨id, A, c, [97, 98]⟩] 0 0 = [] := rfl
  rw [ec, ep] at hx
  rw [ec] at k2
  have k3 : k = 2 := by
    rcases Nat.lt_or_ge k 2 with h2 | h2
    · have := hx h2
      have e1 : k = 1 := by omega
      subst e1
      exact absurd this (by decide)
    · have k4 : k ≤ 2 := k2
      omega
  subst k3
  exact ⟨rfl, rfl⟩
theorem str_bin (w : World) : Bin (w.alloc (.cells #[.int .u8 97, .int .u8 98] 5 (2, 3))) (some ⟨w.heap.size, 0, none⟩) [97, 98] := by
  refine ⟨rfl, fun _ => ⟨_, rfl, by show w.heap.size < (w.heap.push _).size; rw [Array.size_push]; exact Nat.lt_succ_self _, fun j u hu => ?_⟩⟩
  have ea : (⟨w.heap.size, 0, none⟩ : Addr).add j = ⟨w.heap.size, j, none⟩ := by unfold Addr.add; by_cases h0 : j = 0 <;> simp [h0]
  rw [ea]
  have hw : (w.alloc (.cells #[.int .u8 97, .int .u8 98] 5 (2, 3))).heap[w.heap.size]? = some (.cells #[.int .u8 97, .int .u8 98] 5 (2, 3)) := by
    show (w.heap.push _)[w.heap.size]? = _
    rw [Array.getElem?_push_size]
  unfold World.cell?
  simp only [hw]
  rw [if_neg (by simp), List.getElem?_toArray]
  exact hu
theorem RowB.bin {w : World} {B n c : Nat} {A : Option Addr} {L : List Nat} (h : RowB w B (.slice A n c) L) : Bin w A L ∧ n = L.length := by
  obtain ⟨A', c', e, -, hb⟩ := h.out
  injection e with e1 e2 e3
  subst e1 e2 e3
  exact ⟨hb.bin, rfl⟩
set_option maxRecDepth 100000 in
set_option maxHeartbeats 8000000 in
theorem alive_yes (w : World) : Calls Try.prog 7 #[] w fun e w' => e = .returned (.bool true) ∧ Frm No w w' := by
  go_enter Try.func7, Try.ntmps7
  go_wp2_with fail
  refine (queue_new w 9 (by decide) (by decide)).mono ?_
  rintro e w1 ⟨rfl, Q1, F1⟩
  obtain ⟨g, hg⟩ : ∃ g, w.heap.size = g := ⟨_, rfl⟩
  have hgl : g < w1.heap.size := by obtain ⟨cs, hb⟩ := Q1.blk; rw [← hg]; exact hb.lt
  rw [hg] at Q1
  rw [hg]
  have Fs := (Frm.refl No w1).alloc (.cells #[.int .u8 97, .int .u8 98] 5 (2, 3))
  have hcv := Lib.run_convert_bytes_const (P := Try.prog) w1 24 5 #[.int .u8 97, .int .u8 98] 2 2 Try.underlying24 Try.underlying5
  have hpu := push_ok _ g 9 [] 0 0 0 (some ⟨w1.heap.size, 0, none⟩) 2 2 [97, 98] (Q1.frmN Fs) (by decide) (str_bin w1) rfl (fun ad e => by injection e with e; subst e; exact fun h => by have h2 : w1.heap.size = g := h; omega) (by decide) (by decide) (by decide) (by decide) (by decide) (by decide) (by decide) (by decide) (by decide)
  have H1 := Lib.hid (And.intro (F1.thenN Fs) hg)
  clear Q1 Fs F1 hg
  go_wp2_with fail
  refine hpu.mono ?_
  rintro e w2 ⟨rfl, ⟨A2, c2, Q2⟩, F2⟩
  have F02 := H1.out.1.then F2 (fun x hx => .inr (by rw [hx, H1.out.2]; exact Nat.le_refl _))
  have hbu := build_is w2 g 9 9 _ 0 _ _ Q2 (by decide) ⟨by simp, fun t ht => by rw [List.nil_append, List.mem_singleton] at ht; subst ht; exact ⟨(by decide : 1 ≤ [97, 98].length), (by decide : [97, 98].length ≤ 1000)⟩, fun t R e => by rw [List.nil_append] at e; injection e with e1 e2; subst e1; exact (by decide : 0 < [97, 98].length)⟩ (by simp) (by decide) (by decide) (by decide) (by decide)
  have H2 := Lib.hid F02
  clear Q2 F2 F02 hpu
  go_wp2_with fail
  refine hbu.mono ?_
  rintro e w3 ⟨fi, n, O, T', tk', AF, cF, AD, nD, cD, rfl, hn, R3, C3, Q3, F3⟩
  obtain ⟨rfl, rfl⟩ := cut_ab C3
  obtain rfl : 1 = n := hn
  have F03 := H2.out.then F3 (fun x hx => .inr (by rw [hx, H1.out.2]; exact Nat.le_refl _))
  have B4 := Blk.new w3 #[.int .i64 0, .slice AF 1 cF, .slice AD nD cD] 42
  have F4 := (Frm.refl No w3).alloc (.cells #[.int .i64 0, .slice AF 1 cF, .slice AD nD cD] 42)
  obtain ⟨w4, hw4⟩ : ∃ w4, w3.alloc (.cells #[.int .i64 0, .slice AF 1 cF, .slice AD nD cD] 42) = w4 := ⟨_, rfl⟩
  obtain ⟨gp, hgp⟩ : ∃ gp, w3.heap.size = gp := ⟨_, rfl⟩
  have hgpl := B4.lt
  have HR := Lib.hid (R3.frmN F4)
  have H3 := Lib.hid (F03.thenN F4)
  rw [hw4] at B4 HR H3 hgpl
  rw [hgp] at B4 hgpl
  clear R3 Q3 F3 C3 F03 F4 hbu
  go_upto_region 6 with fail
  clear hw4 hgp
  refine wp_region_N (S := fun w' => w'.cell? ⟨gp, 0, none⟩ = some (.int .i64 0) ∧ w'.cell? ⟨gp, 1, none⟩ = some (.slice AF 1 cF)) 99 (by kernel_rfl) ⟨B4.drew.cell 0, B4.drew.cell 1⟩ (fun hHeld => ?_)
  refine wpAnyN_take (i := 1) (v := ?rnv7r6_1) rfl (by kernel_rfl) (by kernel_rfl) (by kernel_rfl) (fun _ _ _ h => h) (by decide) (by kernel_rfl) (Or.inl ⟨by rfl, ?rny7r6_1⟩) (by assumption) ?rnr7r6_1
  case rny7r6_1 => (intro w hSw; (try dsimp only at hSw); go_simp; try with_reducible rfl)
  try simp only [Act.put, List.setIfInBounds_toArray, List.set_cons_zero, List.set_cons_succ, List.getElem_toArray, List.getElem_cons_zero, List.getElem_cons_succ]
  refine wpAnyN_take (i := 2) (v := ?rnv7r6_2) rfl (by kernel_rfl) (by kernel_rfl) (by kernel_rfl) (fun _ _ _ h => h) (by decide) (by kernel_rfl) (Or.inl ⟨by rfl, ?rny7r6_2⟩) (by assumption) ?rnr7r6_2
  case rny7r6_2 => (intro w hSw; (try dsimp only at hSw); go_simp; try with_reducible rfl)
  try simp only [Act.put, List.setIfInBounds_toArray, List.set_cons_zero, List.set_cons_succ, List.getElem_toArray, List.getElem_cons_zero, List.getElem_cons_succ]
  refine wpAnyN_take (i := 3) (v := ?rnv7r6_3) rfl (by kernel_rfl) (by kernel_rfl) (by kernel_rfl) (fun _ _ _ h => h) (by decide) (by kernel_rfl) (Or.inl ⟨by rfl, ?rny7r6_3⟩) (by assumption) ?rnr7r6_3
  case rny7r6_3 => (intro w hSw; (try dsimp only at hSw); go_simp; try with_reducible rfl)
  try simp only [Act.put, List.setIfInBounds_toArray, List.set_cons_zero, List.set_cons_succ, List.getElem_toArray, List.getElem_cons_zero, List.getElem_cons_succ]
  refine wpAnyN_take (i := 4) (v := ?rnv7r6_4) rfl (by kernel_rfl) (by kernel_rfl) (by kernel_rfl) (fun _ _ _ h => h) (by decide) (by kernel_rfl) (Or.inl ⟨by rfl, ?rny7r6_4⟩) (by assumption) ?rnr7r6_4
  case rny7r6_4 => (intro w hSw; (try dsimp only at hSw); go_simp; try with_reducible rfl)
  try simp only [Act.put, List.setIfInBounds_toArray, List.set_cons_zero, List.set_cons_succ, List.getElem_toArray, List.getElem_cons_zero, List.getElem_cons_succ]
  refine wpAnyN_one (i := 0) (by kernel_rfl) rfl (fun K hK => ?_)
  go_simp
  refine (glue_new _).mono ?_
  rintro e w5 ⟨rfl, G5, F5⟩
  obtain ⟨gg, hgg⟩ : ∃ gg, w4.drew.heap.size = gg := ⟨_, rfl⟩
  rw [hgg] at G5 ⊢
  have B5 := F5.blk B4.drew (fun h => h)
  refine hK.out _ _ (fun _ => ?_) (fun hHeld => ?_)
  · exact ⟨B5.cell 0, B5.cell 1⟩
  have hHeld := hHeld (by decide)
  clear hK K
  try simp only [Act.put, List.setIfInBounds_toArray, List.set_cons_zero, List.set_cons_succ, List.getElem_toArray, List.getElem_cons_zero, List.getElem_cons_succ]
  refine wpAnyN_one (i := 5) (by kernel_rfl) rfl (fun K hK => ?_)
  go_simp
  refine (put_is w5 gg none 0 0 AF 1 cF [[97, 98]] false G5 (by omega) (by omega) ((HR.out.frmN ((Frm.refl No w4).drew.thenN F5)).lower (Nat.zero_le _)) rfl (by omega) (by omega) (by decide) (by omega) ab_3).mono ?_
  rintro e w6 ⟨v6, rfl, R6, G6, F6⟩
  have B6 := F6.blk B5 (fun h => by have h3 : w4.heap.size = gg := hgg; omega)
  refine hK.out _ _ (fun _ => ?_) (fun hHeld => ?_)
  · exact ⟨B6.cell 0, B6.cell 1⟩
  have hHeld := hHeld (by decide)
  clear hK K
  try simp only [Act.put, List.setIfInBounds_toArray, List.set_cons_zero, List.set_cons_succ, List.getElem_toArray, List.getElem_cons_zero, List.getElem_cons_succ]
  refine wpAnyN_take (i := 6) (v := ?rnv7r6_6) rfl (by kernel_rfl) (by kernel_rfl) (by kernel_rfl) (fun _ _ _ h => h) (by decide) (by kernel_rfl) (Or.inl ⟨by rfl, ?rny7r6_6⟩) (by assumption) ?rnr7r6_6
  case rny7r6_6 => (intro w hSw; (try dsimp only at hSw); go_simp; try with_reducible rfl)
  try simp only [Act.put, List.setIfInBounds_toArray, List.set_cons_zero, List.set_cons_succ, List.getElem_toArray, List.getElem_cons_zero, List.getElem_cons_succ]
  refine wpAnyN_take (i := 7) (v := ?rnv7r6_7) rfl (by kernel_rfl) (by kernel_rfl) (by kernel_rfl) (fun _ _ _ h => h) (by decide) (by kernel_rfl) (Or.inl ⟨by rfl, ?rny7r6_7⟩) (by assumption) ?rnr7r6_7
  case rny7r6_7 => (intro w hSw; (try dsimp only at hSw); go_simp; try with_reducible rfl)
  try simp only [Act.put, List.setIfInBounds_toArray, List.set_cons_zero, List.set_cons_succ, List.getElem_toArray, List.getElem_cons_zero, List.getElem_cons_succ]
  refine wpAnyN_take (i := 8) (v := ?rnv7r6_8) rfl (by kernel_rfl) (by kernel_rfl) (by kernel_rfl) (fun _ _ _ h => h) (by decide) (by kernel_rfl) (Or.inl ⟨by rfl, ?rny7r6_8⟩) (by assumption) ?rnr7r6_8
  case rny7r6_8 => (intro w hSw; (try dsimp only at hSw); go_simp; try with_reducible rfl)
  try simp only [Act.put, List.setIfInBounds_toArray, List.set_cons_zero, List.set_cons_succ, List.getElem_toArray, List.getElem_cons_zero, List.getElem_cons_succ]
  refine wpAnyN_take (i := 9) (v := ?rnv7r6_9) rfl (by kernel_rfl) (by kernel_rfl) (by kernel_rfl) (fun _ _ _ h => h) (by decide) (by kernel_rfl) (Or.inl ⟨by rfl, ?rny7r6_9⟩) (by assumption) ?rnr7r6_9
  case rny7r6_9 => (intro w hSw; (try dsimp only at hSw); go_simp; try with_reducible rfl)
  try simp only [Act.put, List.setIfInBounds_toArray, List.set_cons_zero, List.set_cons_succ, List.getElem_toArray, List.getElem_cons_zero, List.getElem_cons_succ]
  refine wpAnyN_take (i := 10) (v := ?rnv7r6_10) rfl (by kernel_rfl) (by kernel_rfl) (by kernel_rfl) (fun _ _ _ h => h) (by decide) (by kernel_rfl) (Or.inl ⟨by rfl, ?rny7r6_10⟩) (by assumption) ?rnr7r6_10
  case rny7r6_10 => (intro w hSw; (try dsimp only at hSw); go_simp; try with_reducible rfl)
  try simp only [Act.put, List.setIfInBounds_toArray, List.set_cons_zero, List.set_cons_succ, List.getElem_toArray, List.getElem_cons_zero, List.getElem_cons_succ]
  refine wpAnyN_done (by kernel_rfl) ?_ _

  rw [ab_gs] at R6
  have F06 := (H3.out.thenN (((Frm.refl No w4).drew).thenN F5)).then F6 (fun x hx => .inr (by have h3 : w4.heap.size = gg := hgg; have h4 := H3.out.size; omega))
  obtain ⟨A6, c6, rfl, -⟩ := R6.out (n := 1) rfl
  obtain ⟨ad, Af, cf, rfl, hc6, RB6, -, ead⟩ := R6.at_ (i := 0) (by decide)
  obtain ⟨gq, rfl⟩ : ∃ gq, ad = ⟨gq, 0, none⟩ := ⟨_, ead⟩
  have h5 : (⟨gq, 0, none⟩ : Addr).add 0 = ⟨gq, 0, none⟩ := by simp [Addr.add]
  rw [h5] at hc6
  have hc6' : w6.cell? ⟨gq, 0, none⟩ = some (.slice Af 2 cf) := hc6
  clear h5
  clear ead
  have hstr : (convert 24 9 (.slice Af 2 cf)).run Try.prog w6 = .ok (.string ⟨#[97, 98]⟩) w6 := by
    have := (RowB.bin RB6).1.str (n := 2) (c := cf) rfl
    rw [show ([[97, 98]] : List (List Nat)).getD 0 [] = [97, 98] from rfl, ab_5] at this
    exact this
  have hus := usual_um w6
  have H6 := Lib.hid F06
  clear R6 G6 F6 B6 RB6 hc6 F06 G5 F5 B5 hgg hHeld
  go_wp2_with fail
  refine hus.mono ?_
  rintro e w7 ⟨rfl, F7⟩
  have hck := check5 w7
  have H7 := Lib.hid (H6.out.thenN F7)
  clear F7
  go_wp2_with fail
  refine hck.mono ?_
  rintro e w8 ⟨rfl, F8⟩
  have H8 := Lib.hid (H7.out.thenN F8)
  clear F8
  go_wp2_with fail
  go_ret
  exact ⟨rfl, H8.out⟩
end Go.Proofs.Ytccaaldfccgncaa.A
