/- umd.Read. -/
import Derived.Test.YtccaaldfccgncaaUY
namespace Go.Proofs.Ytccaaldfccgncaa.A
open Go.RowKit Go.Proofs.Ytccaaldfccgncaa.K
set_option linter.unusedVariables false
set_option linter.unusedSimpArgs false
set_option maxRecDepth 100000 in
set_option maxHeartbeats 8000000 in
theorem um_read (w : World) (A : Option Addr) (l c b fi sn : Nat) (O : List (List Nat)) (hb : b = 5 ∨ b = 10) (h : Bin w A (wireOf b fi sn O)) (hl : (wireOf b fi sn O).length = l) (hlc : l ≤ c) (hok : FldOk O) (ht : tot O ≤ 3000) (hfi : fi ≤ 3) (hsn : sn ≤ 31) (h256 : ∀ f ∈ O, ∀ x ∈ f, x < 256) :
    Calls Try.prog 31 #[.slice A l c, .int .i64 b] w fun e w' => ∃ v, e = .returned (.tuple #[.agg #[.int .i64 fi, .int .i64 sn, v], .int .i64 0]) ∧ RowF w' w.heap.size v O ∧ Frm No w w' := by
  have F0 := (Frm.refl No w).alloc (.cells #[.int .i64 0, .int .i64 0, .slice none 0 0] 49)
  have B0 := Blk.new w #[.int .i64 0, .int .i64 0, .slice none 0 0] 49
  obtain ⟨w0, hw0⟩ : ∃ w0, w.alloc (.cells #[.int .i64 0, .int .i64 0, .slice none 0 0] 49) = w0 := ⟨_, rfl⟩
  obtain ⟨g, hg⟩ : ∃ g, w.heap.size = g := ⟨_, rfl⟩
  rw [hw0] at F0 B0
  rw [hg] at B0
  obtain ⟨L, hL⟩ : ∃ L, wireOf b fi sn O = L := ⟨_, rfl⟩
  have h256' : ∀ x ∈ L, x < 256 := by rw [← hL]; exact wire_lt b fi sn h256
  have hlw := wire_len b fi sn O hb
  have hle := wire_len_le b fi sn O hb hok ht
  have hwd := wire_drop b fi sn O hb
  have hw := umwidth w0 b hb
  have hhd := fun W => head_is W b hb
  obtain ⟨pd, hpd⟩ : ∃ pd, 8 * (b / 5) - 3 - b = pd := ⟨_, rfl⟩
  have hrd := hd_read (b := b) (fi := fi) (mo := moOf O) (sn := sn) (bodyOf O) hb hfi (by unfold moOf; split <;> omega) hsn hpd
  rw [← wire_is, hL] at hrd
  rw [hL] at h hl hlw hle hwd
  have pw8 : IntKind.i64.wrap (8 * ((b / 5 : Nat) : Int)) = 8 * ((b / 5 : Nat) : Int) := IntWalk.i64_in _ ⟨by omega, by omega⟩
  have pw83 : IntKind.i64.wrap (8 * ((b / 5 : Nat) : Int) - 3) = 8 * ((b / 5 : Nat) : Int) - 3 := IntWalk.i64_in _ ⟨by omega, by omega⟩
  have pwpd : IntKind.i64.wrap (8 * ((b / 5 : Nat) : Int) - 3 - (b : Int)) = (pd : Int) := by rw [IntWalk.i64_in _ ⟨by omega, by omega⟩]; rcases hb with rfl | rfl <;> omega
  have l4 : ¬ (4000 : Int) < (l : Int) := by omega
  have lh : ¬ (l : Int) < ((b / 5 : Nat) : Int) := by omega
  obtain ⟨hd5, hh5⟩ : ∃ hd5, b / 5 = hd5 := ⟨_, rfl⟩
  rw [hh5] at pw8 pw83 pwpd hhd lh
  have hnew := rd_new w0 A l c L (h.frmN F0) hl (by omega) hlc
  have hnum : pd ≤ 3 ∧ b ≤ 10 ∧ 5 ≤ b ∧ pd + 3 + b = 8 * hd5 ∧ hd5 ≤ l := by rcases hb with rfl | rfl <;> omega
  have H := Lib.hid (And.intro F0 (And.intro B0 (And.intro h (And.intro hl (And.intro hlc (And.intro hok (And.intro ht (And.intro h256' (And.intro hlw (And.intro hle (And.intro hwd (And.intro hrd (And.intro hnum (And.intro hL (And.intro hh5 hb)))))))))))))))
  clear F0 B0 h hl hlc hok ht h256 h256' hlw hle hwd hrd hnum hL hh5 hpd hb
  go_enter Try.func31, Try.ntmps31
  go_wp2_with fail
  refine hw.mono ?_
  rintro e wq ⟨rfl, hwx⟩
  have hwx2 := hwx.symm
  clear hwx hw
  subst hwx2
  go_wp2_with fail
  refine (hhd _).mono ?_
  rintro e wq ⟨rfl, hwx⟩
  have hwx2 := hwx.symm
  clear hwx
  subst hwx2
  go_wp2_with fail
  refine hnew.mono ?_
  rintro e w1 ⟨gr, rfl, hgr, R1, F1⟩
  have hgl : g < gr := Nat.lt_of_lt_of_le H.out.2.1.lt hgr
  have F1b : Frm No w w1 := H.out.1.thenN F1
  have Bg1 := F1.blk H.out.2.1 (fun h => h)
  have hP := H.out.2.2.2.2.2.2.2.2.2.2.2.2.1
  have hV := H.out.2.2.2.2.2.2.2.2.2.2.2.1
  have h256 := H.out.2.2.2.2.2.2.2.1
  have hLl : 8 * L.length = 8 * l := by rw [H.out.2.2.2.1]
  have hL8 : L.length ≤ 8000 := by have := H.out.2.2.2.2.2.2.2.2.2.1; omega
  have hgw : w.heap.size ≤ gr := by omega
  have HP := Lib.hid (And.intro hP (And.intro hV (And.intro h256 (And.intro hLl (And.intro hL8 hgw)))))
  have g1 := rd_get w1 gr 0 pd L R1 hL8 h256 (by omega) (by omega)
  rw [hV.1] at g1
  have H1 := Lib.hid (And.intro F1b Bg1)
  clear hP hV h256 hLl hL8 hgw F1b Bg1 F1 R1 hnew
  go_wp2_with fail
  refine (hhd _).mono ?_
  rintro e wq ⟨rfl, hwx⟩
  have hwx2 := hwx.symm
  clear hwx
  subst hwx2
  go_wp2_with fail
  refine g1.mono ?_
  rintro e w2 ⟨rfl, R2, F2⟩
  have g2 := rd_get w2 gr (0 + pd) 2 L R2 HP.out.2.2.2.2.1 HP.out.2.2.1 (by omega) (by rw [HP.out.2.2.2.1]; have := HP.out.1; omega)
  rw [Nat.zero_add, HP.out.2.1.2.1] at g2
  have H2 := Lib.hid (And.intro (H1.out.1.then F2 (fun x hx => .inr (by subst hx; exact HP.out.2.2.2.2.2))) (F2.blk H1.out.2 (fun h => by omega)))
  clear g1 R2 F2
  go_wp2_with fail
  refine g2.mono ?_
  rintro e w3 ⟨rfl, R3, F3⟩
  have g3 := rd_get w3 gr (pd + 2) 1 L R3 HP.out.2.2.2.2.1 HP.out.2.2.1 (by omega) (by rw [HP.out.2.2.2.1]; have := HP.out.1; omega)
  rw [HP.out.2.1.2.2.1] at g3
  have H3 := Lib.hid (And.intro (H2.out.1.then F3 (fun x hx => .inr (by subst hx; exact HP.out.2.2.2.2.2))) (F3.blk H2.out.2 (fun h => by omega)))
  clear g2 R3 F3
  go_wp2_with fail
  refine g3.mono ?_
  rintro e w4 ⟨rfl, R4, F4⟩
  have g4 := rd_get w4 gr (pd + 2 + 1) b L R4 HP.out.2.2.2.2.1 HP.out.2.2.1 (by have := HP.out.1; omega) (by rw [HP.out.2.2.2.1]; have := HP.out.1; omega)
  rw [show pd + 2 + 1 = pd + 3 by omega, HP.out.2.1.2.2.2] at g4
  have H4 := Lib.hid (And.intro (H3.out.1.then F4 (fun x hx => .inr (by subst hx; exact HP.out.2.2.2.2.2))) (F4.blk H3.out.2 (fun h => by omega)))
  clear g3 R4 F4
  go_wp2_with fail
  refine g4.mono ?_
  rintro e w5 ⟨rfl, R5, F5⟩
  have H5 := Lib.hid (And.intro (H4.out.1.then F5 (fun x hx => .inr (by subst hx; exact HP.out.2.2.2.2.2))) (F5.blk H4.out.2 (fun h => by omega)))
  have hsl := fun W => slice_l Try.underlying24 size5 A l c hd5 HP.out.1.2.2.2.2 W
  clear g4 R5 F5
  go_wp2_with fail
  refine (hhd _).mono ?_
  rintro e wq ⟨rfl, hwx⟩
  have hwx2 := hwx.symm
  clear hwx hhd
  subst hwx2
  have hbd : Bin w5 (cutA A hd5 1 c) (bodyOf O) := by
    have := (H.out.2.2.1.frmN H5.out.1).cut (k := hd5) (cap := c) (by rw [H.out.2.2.2.1]; exact HP.out.1.2.2.2.2) (by rw [H.out.2.2.2.1]; exact H.out.2.2.2.2.1)
    rw [← H.out.2.2.2.2.2.2.2.2.2.2.1, H.out.2.2.2.2.2.2.2.2.2.2.2.2.2.2.1]
    exact this
  have hbl : (bodyOf O).length = l - hd5 := by
    have h1 := H.out.2.2.2.2.2.2.2.2.1
    have h2 := H.out.2.2.2.1
    have h3 := H.out.2.2.2.2.2.2.2.2.2.2.2.2.2.2.1
    omega
  have hbc : l - hd5 ≤ c - hd5 := by have := H.out.2.2.2.2.1; omega
  by_cases hn1 : O.length = 1
  · have hmo : moOf O = 0 := by unfold moOf; rw [if_pos hn1]
    have hbo : bodyOf O = O.flatten := by unfold bodyOf; rw [if_pos hn1, List.nil_append]
    rw [hbo] at hbd hbl
    have hfd := um_fields w5 (cutA A hd5 1 c) none (l - hd5) (c - hd5) 0 0 w5.heap.size O hbd hbl hbc (World.ownsRow_nil _ _ _ _) (by omega) H.out.2.2.2.2.2.1 H.out.2.2.2.2.2.2.1
    have HN := Lib.hid hn1
    rw [hmo]
    clear hn1 hmo hbo hbd hbl hbc
    go_wp2_with fail
    refine hfd.mono ?_
    rintro e w6 ⟨v, rfl, R6, F6⟩
    have B6 := F6.blk H5.out.2 (fun h => h)
    have F06 := H5.out.1.thenN F6
    have z0 : w6.cell? ⟨g, 0, none⟩ = some (.int .i64 0) := B6.cell 0
    have z1 : w6.cell? ⟨g, 1, none⟩ = some (.int .i64 0) := B6.cell 1
    have z2 : w6.cell? ⟨g, 2, none⟩ = some (.slice none 0 0) := B6.cell 2
    have fz0 : w6.frozen? ⟨g, 0, none⟩ = false := B6.free 0
    have fz1 : w6.frozen? ⟨g, 1, none⟩ = false := B6.free 1
    have fz2 : w6.frozen? ⟨g, 2, none⟩ = false := B6.free 2
    have hgl6 := B6.lt
    have pwf : IntKind.i64.wrap (fi : Int) = (fi : Int) := IntWalk.i64_in _ ⟨by omega, by have := HP.out.2.1; omega⟩
    have pws : IntKind.i64.wrap (sn : Int) = (sn : Int) := IntWalk.i64_in _ ⟨by omega, by omega⟩
    obtain ⟨nn, hnn⟩ : ∃ nn, O.length = nn := ⟨_, rfl⟩
    obtain ⟨A6, c6, rfl, -⟩ := R6.out hnn
    clear hnn
    have H6 := Lib.hid (And.intro B6 (And.intro F06 R6))
    clear B6 F06 R6 F6 hfd
    go_wp2_with fail
    have F7 : Frm (fun x => x = g) w6 (((w6.setCell ⟨g, 0, none⟩ (.int .i64 (fi : Int))).setCell ⟨g, 1, none⟩ (.int .i64 (sn : Int))).setCell ⟨g, 2, none⟩ (.slice A6 nn c6)) := (((Frm.refl (fun x => x = g) w6).self 0 _).self 1 _).self 2 _
    have B7 : Blk (((w6.setCell ⟨g, 0, none⟩ (.int .i64 (fi : Int))).setCell ⟨g, 1, none⟩ (.int .i64 (sn : Int))).setCell ⟨g, 2, none⟩ (.slice A6 nn c6)) g #[.int .i64 (fi : Int), .int .i64 (sn : Int), .slice A6 nn c6] 49 := ((H6.out.1.set 0 _).set 1 _).set 2 _
    refine bodyPost_ret (ret_cell_tmp (by rfl) _ _ g 49 _ _ rfl B7 Try.underlying49 rfl size49) rfl ?_
    have nt : ∀ t, t ≠ 49 → ∀ x cs, Blk w6 x cs t → ¬ (x = g) := fun t ht x cs hx e => by subst e; exact Blk.ne hx H6.out.1 ht rfl
    exact ⟨_, rfl, (H6.out.2.2.lower H5.out.1.size).frm F7 (nt 24 (by decide)) (nt 5 (by decide)), H6.out.2.1.then F7 (fun x hx => .inr (by omega))⟩
  · have hmo : moOf O = 1 := by unfold moOf; rw [if_neg hn1]
    obtain ⟨q, hq⟩ : ∃ q, O.length - 1 = q := ⟨_, rfl⟩
    have hbo : bodyOf O = pk (lb (lensOf O q) q) ++ O.flatten := by unfold bodyOf; rw [if_neg hn1, hq]
    have hq1 : 1 ≤ q ∧ q ≤ 23 ∧ q + 1 = O.length := by have h1 := H.out.2.2.2.2.2.1.1; have h2 := H.out.2.2.2.2.2.1.2.1; omega
    have hpl : (pk (lb (lensOf O q) q)).length = sizeL q := by rw [pk_len, lb_len]; unfold sizeL; rw [if_neg (by omega), Nat.mul_comm]
    have hlr := lens_read w5 (cutA A hd5 1 c) (l - hd5) (c - hd5) q (bodyOf O) (lensOf O q) O.flatten hbd hbo hbl hbc (by omega) (by rw [← H.out.2.2.2.2.2.2.2.2.2.2.1]; exact fun x hx => HP.out.2.2.1 x (List.mem_of_mem_drop hx)) (lensOf_len O (by omega)) hq1.1 hq1.2.1 (lensOf_in H.out.2.2.2.2.2.1 q)
    have hle : sizeL q ≤ l - hd5 := by rw [← hbl, hbo, List.length_append, hpl]; omega
    have hfl2 : O.flatten.length = l - hd5 - sizeL q := by rw [← hbl, hbo, List.length_append, hpl]; omega
    have hcut := hbd.cut (k := sizeL q) (cap := c - hd5) (by rw [hbl]; exact hle) (by rw [hbl]; exact hbc)
    rw [hbo, List.drop_left' hpl] at hcut
    obtain ⟨sz, hsz⟩ : ∃ sz, sizeL q = sz := ⟨_, rfl⟩
    rw [hsz] at hlr hle hfl2 hcut
    have hsl3 := fun W => slice_l Try.underlying24 size5 (cutA A hd5 1 c) (l - hd5) (c - hd5) sz hle W
    have HQ := Lib.hid (And.intro hcut (And.intro hfl2 (And.intro hq1 hbc)))
    rw [hmo]
    clear hn1 hmo hbo hbd hbl hbc hcut hfl2 hq1 hpl hsz hq
    go_wp2_with fail
    refine hlr.mono ?_
    rintro e w5b ⟨vl, rfl, Rl, Fl5⟩
    obtain ⟨Al, cl, rfl, -, -⟩ := Rl.out (lensOf_len O (by have := HQ.out.2.2.1.2.2; omega))
    have HL0 := Lib.hid (And.intro Rl (And.intro (H5.out.1.thenN Fl5) (Fl5.blk H5.out.2 (fun h => h))))
    have HC := Lib.hid (HQ.out.1.frmN Fl5)
    clear Rl Fl5 hlr
    go_upto_region 20 with fail
    go_quiet (fail)
    obtain ⟨wd, hwd⟩ : ∃ wd, w5b.drewN nq = wd := ⟨_, rfl⟩
    have Fd : Frm No w5b wd := by rw [← hwd]; exact (Frm.refl No w5b).drewN nq
    rw [hwd]
    have HL := Lib.hid (And.intro (HL0.out.1.frmN Fd) (And.intro (HL0.out.2.1.thenN Fd) (Fd.blk HL0.out.2.2 (fun h => h))))
    have hfd := um_fields wd (cutA (cutA A hd5 1 c) sz 1 (c - hd5)) Al (l - hd5 - sz) (c - hd5 - sz) q cl w5.heap.size O (HC.out.frmN Fd) HQ.out.2.1 (by have := HQ.out.2.2.2; omega) HL.out.1 HQ.out.2.2.1.2.2 H.out.2.2.2.2.2.1 H.out.2.2.2.2.2.2.1
    clear hwd Fd
    go_wp2_with fail
    refine hfd.mono ?_
    rintro e w6 ⟨v, rfl, R6, F6⟩
    have B6 := F6.blk HL.out.2.2 (fun h => h)
    have F06 := HL.out.2.1.thenN F6
    have z0 : w6.cell? ⟨g, 0, none⟩ = some (.int .i64 0) := B6.cell 0
    have z1 : w6.cell? ⟨g, 1, none⟩ = some (.int .i64 0) := B6.cell 1
    have z2 : w6.cell? ⟨g, 2, none⟩ = some (.slice none 0 0) := B6.cell 2
    have fz0 : w6.frozen? ⟨g, 0, none⟩ = false := B6.free 0
    have fz1 : w6.frozen? ⟨g, 1, none⟩ = false := B6.free 1
    have fz2 : w6.frozen? ⟨g, 2, none⟩ = false := B6.free 2
    have hgl6 := B6.lt
    have pwf : IntKind.i64.wrap (fi : Int) = (fi : Int) := IntWalk.i64_in _ ⟨by omega, by have := HP.out.2.1; omega⟩
    have pws : IntKind.i64.wrap (sn : Int) = (sn : Int) := IntWalk.i64_in _ ⟨by omega, by omega⟩
    obtain ⟨nn, hnn⟩ : ∃ nn, O.length = nn := ⟨_, rfl⟩
    obtain ⟨A6, c6, rfl, -⟩ := R6.out hnn
    clear hnn
    have H6 := Lib.hid (And.intro B6 (And.intro F06 R6))
    clear B6 F06 R6 F6 hfd
    go_wp2_with fail
    have F7 : Frm (fun x => x = g) w6 (((w6.setCell ⟨g, 0, none⟩ (.int .i64 (fi : Int))).setCell ⟨g, 1, none⟩ (.int .i64 (sn : Int))).setCell ⟨g, 2, none⟩ (.slice A6 nn c6)) := (((Frm.refl (fun x => x = g) w6).self 0 _).self 1 _).self 2 _
    have B7 : Blk (((w6.setCell ⟨g, 0, none⟩ (.int .i64 (fi : Int))).setCell ⟨g, 1, none⟩ (.int .i64 (sn : Int))).setCell ⟨g, 2, none⟩ (.slice A6 nn c6)) g #[.int .i64 (fi : Int), .int .i64 (sn : Int), .slice A6 nn c6] 49 := ((H6.out.1.set 0 _).set 1 _).set 2 _
    refine bodyPost_ret (ret_cell_tmp (by rfl) _ _ g 49 _ _ rfl B7 Try.underlying49 rfl size49) rfl ?_
    have nt : ∀ t, t ≠ 49 → ∀ x cs, Blk w6 x cs t → ¬ (x = g) := fun t ht x cs hx e => by subst e; exact Blk.ne hx H6.out.1 ht rfl
    exact ⟨_, rfl, (H6.out.2.2.lower HL.out.2.1.size).frm F7 (nt 24 (by decide)) (nt 5 (by decide)), H6.out.2.1.then F7 (fun x hx => .inr (by omega))⟩
end Go.Proofs.Ytccaaldfccgncaa.A
