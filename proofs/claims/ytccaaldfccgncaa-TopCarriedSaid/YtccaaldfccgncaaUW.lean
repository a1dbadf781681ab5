/- umd.Write. -/
import Derived.Test.YtccaaldfccgncaaLG
namespace Go.Proofs.Ytccaaldfccgncaa.A
open Go.RowKit Go.Proofs.Ytccaaldfccgncaa.K
set_option linter.unusedVariables false
set_option linter.unusedSimpArgs false
/-- The head's bits. -/
def hdOf (b fi mo sn : Nat) : List Nat := bitsOf 0 (8 * (b / 5) - 3 - b) ++ bitsOf fi 2 ++ bitsOf mo 1 ++ bitsOf sn b
theorem hdOf_len (b fi mo sn : Nat) (hb : b = 5 ∨ b = 10) : (hdOf b fi mo sn).length = 8 * (b / 5) := by
  unfold hdOf
  simp only [List.length_append, bitsOf_len]
  rcases hb with rfl | rfl <;> rfl
/-- A packet's bytes. -/
def wireOf (b fi sn : Nat) (O : List (List Nat)) : List Nat := pk (hdOf b fi (if O.length = 1 then 0 else 1) sn) ++ (if O.length = 1 then [] else pk (lb (lensOf O (O.length - 1)) (O.length - 1))) ++ O.flatten
theorem lensOf_in {O : List (List Nat)} (h : FldOk O) (i : Nat) : ∀ x ∈ lensOf O i, 1 ≤ x ∧ x < 2048 := fun x hx => by
  obtain ⟨b, hb, rfl⟩ := List.mem_map.1 hx
  have := h.2.2 b (List.mem_of_mem_take hb)
  omega
set_option maxRecDepth 100000 in
set_option maxHeartbeats 8000000 in
theorem um_write (w : World) (fi sn : Nat) (A : Option Addr) (n c b B : Nat) (O : List (List Nat)) (hb : b = 5 ∨ b = 10) (h : RowF w B (.slice A n c) O) (hn : O.length = n) (hok : FldOk O) (ht : tot O ≤ 3000) (hfi : fi ≤ 3) (hsn : sn ≤ 31) (h256 : ∀ f ∈ O, ∀ x ∈ f, x < 256) :
    Calls Try.prog 27 #[.agg #[.int .i64 fi, .int .i64 sn, .slice A n c], .int .i64 b] w fun e w' => ∃ v, e = .returned (.tuple #[v, .int .i64 0]) ∧ RowB w' w.heap.size v (wireOf b fi sn O) ∧ Frm No w w' := by
  have F0 := (Frm.refl No w).alloc (.cells #[.int .i64 fi, .int .i64 sn, .slice A n c] 49)
  have B0 := Blk.new w #[.int .i64 fi, .int .i64 sn, .slice A n c] 49
  obtain ⟨w0, hw0⟩ : ∃ w0, w.alloc (.cells #[.int .i64 fi, .int .i64 sn, .slice A n c] 49) = w0 := ⟨_, rfl⟩
  obtain ⟨g, hg⟩ : ∃ g, w.heap.size = g := ⟨_, rfl⟩
  rw [hw0] at F0 B0
  have hgw : w.heap.size ≤ g := by omega
  have hgw2 : g < w0.heap.size := by rw [← hg, ← hw0]; simp
  rw [hg] at B0
  have hum := umwidth w0 b hb
  have hri := um_right w0 fi sn A n c b B O hb (h.frmN F0) hn hok ht hfi hsn
  have k0 : w0.cell? ⟨g, 0, none⟩ = some (.int .i64 fi) := B0.cell 0
  have k1 : w0.cell? ⟨g, 1, none⟩ = some (.int .i64 sn) := B0.cell 1
  have k2 : w0.cell? ⟨g, 2, none⟩ = some (.slice A n c) := B0.cell 2
  have hn1 : 1 ≤ n := by rw [← hn]; exact hok.1
  have hn24 : n ≤ 24 := by rw [← hn]; exact hok.2.1
  obtain ⟨m, hm⟩ : ∃ m, n - 1 = m := ⟨_, rfl⟩
  have pwm : IntKind.i64.wrap ((n : Int) - 1) = (m : Int) := by rw [IntWalk.i64_in _ ⟨by omega, by omega⟩]; omega
  obtain ⟨mo, hmo⟩ : ∃ mo, (if n = 1 then 0 else 1) = mo := ⟨_, rfl⟩
  have mo1 : mo ≤ 1 := by rw [← hmo]; split <;> omega
  have hmin : min (m : Int) 1 = (mo : Int) := by rw [← hmo]; split <;> omega
  have pwo : IntKind.u64.wrap (mo : Int) = (mo : Int) := IntWalk.u64_in _ ⟨by omega, by omega⟩
  have pwf : IntKind.u64.wrap (fi : Int) = (fi : Int) := IntWalk.u64_in _ ⟨by omega, by omega⟩
  have pws : IntKind.u64.wrap (sn : Int) = (sn : Int) := IntWalk.u64_in _ ⟨by omega, by omega⟩
  obtain ⟨pd, hpd⟩ : ∃ pd, 8 * (b / 5) - 3 - b = pd := ⟨_, rfl⟩
  have hpd3 : pd ≤ 3 ∧ b ≤ 10 ∧ 5 ≤ b ∧ pd + 2 + 1 + b ≤ 16 := by rcases hb with rfl | rfl <;> omega
  have pw8 : IntKind.i64.wrap (8 * ((b / 5 : Nat) : Int)) = 8 * ((b / 5 : Nat) : Int) := IntWalk.i64_in _ ⟨by omega, by omega⟩
  have pw83 : IntKind.i64.wrap (8 * ((b / 5 : Nat) : Int) - 3) = 8 * ((b / 5 : Nat) : Int) - 3 := IntWalk.i64_in _ ⟨by omega, by omega⟩
  have pwpd : IntKind.i64.wrap (8 * ((b / 5 : Nat) : Int) - 3 - (b : Int)) = (pd : Int) := by rw [IntWalk.i64_in _ ⟨by omega, by omega⟩]; rcases hb with rfl | rfl <;> omega
  obtain ⟨hd5, hh5⟩ : ∃ hd5, b / 5 = hd5 := ⟨_, rfl⟩
  have hhd := fun W => head_is W b hb
  rw [hh5] at pw8 pw83 pwpd hhd
  have hfi4 : fi < 2 ^ 2 := by omega
  have hsnb : sn < 2 ^ b := by rcases hb with rfl | rfl <;> omega
  have HD : hdOf b fi mo sn = bitsOf 0 pd ++ bitsOf fi 2 ++ bitsOf mo 1 ++ bitsOf sn b := by unfold hdOf; rw [hpd]
  have H := Lib.hid (And.intro F0 (And.intro B0 (And.intro h (And.intro hn (And.intro hok (And.intro ht (And.intro h256 (And.intro hm (And.intro hmo (And.intro hgw2 (And.intro HD (And.intro hpd3 (And.intro hfi4 (And.intro hsnb (And.intro mo1 (And.intro hb hgw))))))))))))))))
  clear F0 B0 h hn hok ht h256 hm hmo hgw2 HD hpd3 hfi4 hsnb hpd hh5 hb hgw hn1 hn24
  go_enter Try.func27, Try.ntmps27
  go_wp2_with fail
  refine hum.mono ?_
  rintro e wq ⟨rfl, hwx⟩
  have hwx2 := hwx.symm
  clear hwx hum
  subst hwx2
  go_wp2_with fail
  refine hri.mono ?_
  rintro e w1 ⟨rfl, F1⟩
  have B1 := F1.blk H.out.2.1 (fun h => h)
  have k0b : w1.cell? ⟨g, 0, none⟩ = some (.int .i64 fi) := B1.cell 0
  have k1b : w1.cell? ⟨g, 1, none⟩ = some (.int .i64 sn) := B1.cell 1
  have k2b : w1.cell? ⟨g, 2, none⟩ = some (.slice A n c) := B1.cell 2
  have hnew := wr_new w1
  have H1 := Lib.hid (And.intro (H.out.1.thenN F1) B1)
  clear F1 B1 hri k0 k1 k2
  go_wp2_with fail
  refine hnew.mono ?_
  rintro e w2 ⟨rfl, W2, F2⟩
  obtain ⟨g2, hg2⟩ : ∃ g2, w1.heap.size = g2 := ⟨_, rfl⟩
  rw [hg2] at W2
  have hgg := wr_size W2
  have k0c : w2.cell? ⟨g, 0, none⟩ = some (.int .i64 fi) := (F2.blk H1.out.2 (fun h => h)).cell 0
  have k1c : w2.cell? ⟨g, 1, none⟩ = some (.int .i64 sn) := (F2.blk H1.out.2 (fun h => h)).cell 1
  have k2c : w2.cell? ⟨g, 2, none⟩ = some (.slice A n c) := (F2.blk H1.out.2 (fun h => h)).cell 2
  have H2 := Lib.hid (And.intro W2 (And.intro F2 (And.intro hgg (show w1.heap.size ≤ g2 by omega))))
  clear W2 F2 hnew k0b k1b k2b hgg
  go_wp2_with fail
  refine (hhd w2).mono ?_
  rintro e wq ⟨rfl, hwx⟩
  have hwx2 := hwx.symm
  clear hwx hhd
  subst hwx2
  have hp1 := wr_put w2 g2 (g2 + 1) 0 pd [] H2.out.1 (Nat.pow_pos (by omega)) (by have := H.out.2.2.2.2.2.2.2.2.2.2.2.1; omega) (by have := H2.out.2.2.1; omega) (by simp)
  go_wp2_with fail
  refine hp1.mono ?_
  rintro e w3 ⟨rfl, W3, P3⟩
  have hp2 := wr_put w3 g2 (g2 + 1) fi 2 _ W3 H.out.2.2.2.2.2.2.2.2.2.2.2.2.1 (by omega) (by have := H2.out.2.2.1; have := P3.size; omega) (by rw [List.length_append, bitsOf_len]; have := H.out.2.2.2.2.2.2.2.2.2.2.2.1; simp; omega)
  have f3 := P3.frm No w1 H2.out.2.1 H2.out.2.2.2 (by have := H2.out.2.2.2; omega)
  have k0d : w3.cell? ⟨g, 0, none⟩ = some (.int .i64 fi) := (f3.blk H1.out.2 (fun h => h)).cell 0
  have H3 := Lib.hid (And.intro P3 f3)
  clear W3 P3 f3 k0c k1c k2c hp1
  go_wp2_with fail
  refine hp2.mono ?_
  rintro e w4 ⟨rfl, W4, P4⟩
  have hp3 := wr_put w4 g2 (g2 + 1) mo 1 _ W4 (by have := H.out.2.2.2.2.2.2.2.2.2.2.2.2.2.2.1; omega) (by omega) (by have := H2.out.2.2.1; have := H3.out.1.size; have := P4.size; omega) (by simp only [List.length_append, bitsOf_len, List.length_nil]; have := H.out.2.2.2.2.2.2.2.2.2.2.2.1; omega)
  have f4 := P4.frm No w1 H3.out.2 H2.out.2.2.2 (by have := H2.out.2.2.2; omega)
  have H4 := Lib.hid (And.intro (H3.out.1.trans P4) f4)
  clear W4 P4 f4 k0d hp2
  go_wp2_with fail
  refine hp3.mono ?_
  rintro e w5 ⟨rfl, W5, P5⟩
  have hp4 := wr_put w5 g2 (g2 + 1) sn b _ W5 H.out.2.2.2.2.2.2.2.2.2.2.2.2.2.1 (by have := H.out.2.2.2.2.2.2.2.2.2.2.2.1; omega) (by have := H2.out.2.2.1; have := H4.out.1.size; have := P5.size; omega) (by simp only [List.length_append, bitsOf_len, List.length_nil]; have := H.out.2.2.2.2.2.2.2.2.2.2.2.1; omega)
  have f5 := P5.frm No w1 H4.out.2 H2.out.2.2.2 (by have := H2.out.2.2.2; omega)
  have k1e : w5.cell? ⟨g, 1, none⟩ = some (.int .i64 sn) := (f5.blk H1.out.2 (fun h => h)).cell 1
  have H5 := Lib.hid (And.intro (H4.out.1.trans P5) f5)
  clear W5 P5 f5 hp3
  go_wp2_with fail
  refine hp4.mono ?_
  rintro e w6 ⟨rfl, W6, P6⟩
  rw [List.nil_append, ← H.out.2.2.2.2.2.2.2.2.2.2.1] at W6
  have hby := wr_bytes w6 g2 (g2 + 1) _ W6 (by rw [hdOf_len b fi mo sn H.out.2.2.2.2.2.2.2.2.2.2.2.2.2.2.2.1]; have := H.out.2.2.2.2.2.2.2.2.2.2.2.1; omega)
  have f6 := P6.frm No w1 H5.out.2 H2.out.2.2.2 (by have := H2.out.2.2.2; omega)
  have H6 := Lib.hid (H1.out.1.thenN f6)
  have HB6 := Lib.hid (f6.blk H1.out.2 (fun h => h))
  clear W6 P6 f6 hp4 k1e
  go_wp2_with fail
  refine hby.mono ?_
  rintro e w7 ⟨v7, rfl, R7, F7⟩
  have F07 := H6.out.thenN F7
  have R7b : RowB w7 w.heap.size v7 (pk (hdOf b fi mo sn)) := R7.lower H6.out.size
  have k2f : w7.cell? ⟨g, 2, none⟩ = some (.slice A n c) := (F7.blk HB6.out (fun h => h)).cell 2
  obtain ⟨l7, hl7⟩ : ∃ l7, (pk (hdOf b fi mo sn)).length = l7 := ⟨_, rfl⟩
  have hl72 : l7 ≤ 3 := by rw [← hl7, pk_len, hdOf_len b fi mo sn H.out.2.2.2.2.2.2.2.2.2.2.2.2.2.2.2.1]; rcases H.out.2.2.2.2.2.2.2.2.2.2.2.2.2.2.2.1 with rfl | rfl <;> omega
  obtain ⟨A7, c7, rfl, -, -⟩ := R7b.outn hl7
  have HB7 := Lib.hid (F7.blk HB6.out (fun h => h))
  have HF7 := Lib.hid F07
  have hRF := (H.out.2.2.1.frmN H.out.1)
  clear R7 F7 F07 hby
  obtain ⟨i0, hi0, hz0, hz1, hz2⟩ := info_parts info5
  obtain ⟨l8, hl8⟩ : ∃ l8, O.flatten.length = l8 := ⟨_, rfl⟩
  have hl83 : l8 ≤ 3000 := by rw [← hl8, flat_len]; exact H.out.2.2.2.2.2.1
  have hJ := fun W (f : Frm No w W) => join_is W A n c B O (H.out.2.2.1.frmN f) H.out.2.2.2.1 H.out.2.2.2.2.1 H.out.2.2.2.2.2.1 H.out.2.2.2.2.2.2.1
  rw [hl8] at hJ
  have HL8 := Lib.hid hl8
  have HR7 := Lib.hid R7b
  have HL7 := Lib.hid hl7
  clear hl8 R7b hl7 hRF
  by_cases hn1 : n = 1
  · have hmo0 : mo = 0 := by have := H.out.2.2.2.2.2.2.2.2.1; rw [if_pos hn1] at this; omega
    have hw : wireOf b fi sn O = pk (hdOf b fi mo sn) ++ O.flatten := by
      unfold wireOf
      rw [H.out.2.2.2.1, if_pos hn1, if_pos hn1, List.append_nil, hmo0]
    have HWW := Lib.hid hw
    have HN1 := Lib.hid hn1
    have hm0 : ((mo : Int) == 1) = false := by rw [beq_eq_false_iff_ne]; omega
    clear hn1 hmo0 hw
    have hj := hJ w7 HF7.out
    clear hJ
    go_wp2_with fail
    refine hj.mono ?_
    rintro e w8 ⟨A8, c8, rfl, hc8, J8, F8⟩
    have own1 := HR7.out.frmN F8
    unfold RowB at own1
    rw [HL7.out] at own1
    have hrd : Rds w8 1 A8 l8 (O.flatten.map by8) := by have := J8; unfold Bin at this; rw [HL8.out] at this; exact this
    have F08 := HF7.out.thenN F8
    have hsz : w.heap.size ≤ w8.heap.size := F08.size
    have H8 := Lib.hid F08
    clear F08 F8 J8 hj
    go_wp2_with (at_builtin; go_must (refine wpList_append_rds _ rfl _ _ 24 rfl w.heap.size 5 i0 _ 1 1 Try.underlying24 hi0 hz0 hz1 hz2 rfl (by omega) (.slice A7 l7 c7) l7 ((pk (hdOf b fi mo sn)).map by8) rfl own1 A8 l8 c8 (O.flatten.map by8) rfl hrd (by8_one _) (by unfold maxLen; omega) (by omega) hsz ?_; intro v9 w9 own9 hg9; obtain ⟨A9, c9, rfl, -, -⟩ := own_is own9))
    have F9 := own_grown own1 H8.out (Nat.le_refl _) hg9
    have HF9 := Lib.hid F9
    clear F9 hg9 hrd own1
    go_ret2
    refine ⟨_, rfl, ?_, HF9.out⟩
    rw [HWW.out]
    unfold RowB
    rw [List.length_append, HL7.out, HL8.out, List.map_append]
    exact own9
  · have hmo0 : mo = 1 := by have := H.out.2.2.2.2.2.2.2.2.1; rw [if_neg hn1] at this; omega
    have hm1 : 1 ≤ m ∧ m ≤ 23 ∧ n = m + 1 := by
      have h1 := H.out.2.2.2.2.1.1
      have h2 := H.out.2.2.2.2.1.2.1
      have h3 := H.out.2.2.2.1
      have h4 := H.out.2.2.2.2.2.2.2.1
      omega
    have hw : wireOf b fi sn O = pk (hdOf b fi mo sn) ++ pk (lb (lensOf O m) m) ++ O.flatten := by
      unfold wireOf
      rw [H.out.2.2.2.1, if_neg hn1, if_neg hn1, H.out.2.2.2.2.2.2.2.1, hmo0]
    have HM := Lib.hid hm1
    subst hmo0
    have HWW := Lib.hid hw
    have hls := lengths_is w7 A n c B O (H.out.2.2.1.frmN HF7.out) H.out.2.2.2.1 H.out.2.2.2.2.1
    rw [H.out.2.2.2.2.2.2.2.1] at hls
    have hlm : (lensOf O m).length = m := lensOf_len O (by rw [H.out.2.2.2.1]; have := HM.out.2.2; omega)
    have hin := lensOf_in H.out.2.2.2.2.1 m
    obtain ⟨l9, hl9⟩ : ∃ l9, (pk (lb (lensOf O m) m)).length = l9 := ⟨_, rfl⟩
    have hl93 : l9 ≤ 35 := by rw [← hl9, pk_len, lb_len]; omega
    have HX := Lib.hid (And.intro hlm (And.intro hin hl9))
    clear hn1 hw hm1 hlm hin hl9
    go_wp2_with fail
    refine hls.mono ?_
    rintro e w8 ⟨v8, rfl, R8, F8⟩
    obtain ⟨A8, c8, rfl, -, -⟩ := R8.out HX.out.1
    have hlw := lens_write w8 A8 m c8 (lensOf O m) w7.heap.size R8 HX.out.1 HM.out.1 HM.out.2.1 HX.out.2.1
    have H8 := Lib.hid (And.intro (HF7.out.thenN F8) (And.intro (F8.blk HB7.out (fun h => h)) (HR7.out.frmN F8)))
    clear R8 F8 hls k2f
    go_wp2_with fail
    refine hlw.mono ?_
    rintro e w9 ⟨v9, rfl, R9, F9⟩
    obtain ⟨A9, c9, rfl, -, hb9⟩ := R9.outn HX.out.2.2
    have own1 := H8.out.2.2.frmN F9
    unfold RowB at own1
    rw [HL7.out] at own1
    have hrd : Rds w9 1 A9 l9 ((pk (lb (lensOf O m) m)).map by8) := by have := hb9.bin; unfold Bin at this; rw [HX.out.2.2] at this; exact this
    have F09 := H8.out.1.thenN F9
    have hsz : w.heap.size ≤ w9.heap.size := F09.size
    have B9 := F9.blk H8.out.2.1 (fun h => h)
    have H9 := Lib.hid (And.intro F09 B9)
    clear F09 F9 hb9 R9 B9 hlw
    go_upto_region 17 with (at_builtin; go_must (refine wpList_append_rds _ rfl _ _ 24 rfl w.heap.size 5 i0 _ 1 1 Try.underlying24 hi0 hz0 hz1 hz2 rfl (by omega) (.slice A7 l7 c7) l7 ((pk (hdOf b fi 1 sn)).map by8) rfl own1 A9 l9 c9 ((pk (lb (lensOf O m) m)).map by8) rfl hrd (by8_one _) (by unfold maxLen; omega) (by omega) hsz ?_; intro v10 w10 own10 hg10; obtain ⟨A10, c10, rfl, -, -⟩ := own_is own10))
    have F10 := own_grown own1 H9.out.1 (Nat.le_refl _) hg10
    have FA : Frm (fun y => (Value.slice A7 l7 c7).ownBlock = some y) w9 w10 := (Frm.refl (fun y => (Value.slice A7 l7 c7).ownBlock = some y) w9).grown hg10 (fun q e => .inl e)
    have k2g : w10.cell? ⟨g, 2, none⟩ = some (.slice A n c) := (FA.blk H9.out.2 (fun e => by
      obtain ⟨_, cs', hb⟩ := own_blk own1 e
      exact Blk.ne H9.out.2 hb (by decide) rfl)).cell 2
    have hj := hJ w10 F10
    have O10 := Lib.hid (And.intro own10 F10)
    clear hJ F10 FA own1 own10 hg10 hrd hsz
    go_wp2_with fail
    refine hj.mono ?_
    rintro e w11 ⟨A11, c11, rfl, hc11, J11, F11⟩
    have own2 := own_frm O10.out.1 F11 (fun _ _ _ h => h)
    have hrd2 : Rds w11 1 A11 l8 (O.flatten.map by8) := by have := J11; unfold Bin at this; rw [HL8.out] at this; exact this
    have F011 := O10.out.2.thenN F11
    have hsz2 : w.heap.size ≤ w11.heap.size := F011.size
    have H11 := Lib.hid F011
    clear F011 F11 J11 hj k2g
    go_wp2_with (at_builtin; go_must (refine wpList_append_rds _ rfl _ _ 24 rfl w.heap.size 5 i0 _ 1 1 Try.underlying24 hi0 hz0 hz1 hz2 rfl (by omega) (.slice A10 (l7 + l9) c10) (l7 + l9) ((pk (hdOf b fi 1 sn)).map by8 ++ (pk (lb (lensOf O m) m)).map by8) rfl own2 A11 l8 c11 (O.flatten.map by8) rfl hrd2 (by8_one _) (by unfold maxLen; omega) (by omega) hsz2 ?_; intro v12 w12 own12 hg12; obtain ⟨A12, c12, rfl, -, -⟩ := own_is own12))
    have F12 := own_grown own2 H11.out (Nat.le_refl _) hg12
    have HF12 := Lib.hid F12
    clear F12 hg12 hrd2 own2
    go_ret2
    refine ⟨_, rfl, ?_, HF12.out⟩
    rw [HWW.out]
    unfold RowB
    rw [List.length_append, List.length_append, HL7.out, HL8.out, HX.out.2.2, List.map_append, List.map_append]
    exact own12
end Go.Proofs.Ytccaaldfccgncaa.A
