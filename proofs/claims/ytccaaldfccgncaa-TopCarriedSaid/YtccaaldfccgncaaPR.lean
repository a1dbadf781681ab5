/- pdu.Read. -/
import Derived.Test.YtccaaldfccgncaaUR
namespace Go.Proofs.Ytccaaldfccgncaa.A
open Go.RowKit Go.Proofs.Ytccaaldfccgncaa.K
set_option linter.unusedVariables false
set_option linter.unusedSimpArgs false
theorem size56 : (Try.prog.info? 56).map (·.size) = some 14 := by kernel_rfl
theorem jump_ret {l : Nat} {J : Act → World → Prop} {Q : Exit → Act → World → Prop} {a : Act} {w : World} (h : Q .ret a w) : Exit.jump l J Q .ret a w := h
set_option maxRecDepth 100000 in
set_option maxHeartbeats 4000000 in
theorem pd_read5 (w : World) (A : Option Addr) (l c fi sn : Nat) (O : List (List Nat)) (h : Bin w A (wireOf 5 fi sn O)) (hl : (wireOf 5 fi sn O).length = l) (hlc : l ≤ c) (hok : FldOk O) (ht : tot O ≤ 3000) (hfi : fi ≤ 3) (hsn : sn ≤ 31) (h256 : ∀ f ∈ O, ∀ x ∈ f, x < 256) :
    Calls Try.prog 13 #[.agg #[.int .i64 1, .int .i64 5, .int .i64 16, .int .i64 4, .int .i64 0, .int .i64 0, .int .i64 0, .int .i64 0, .int .i64 0, .int .i64 5000], .slice A l c] w fun e w' => ∃ v, e = .returned (.tuple #[.agg #[.int .i64 1, .slice none 0 0, .int .i64 fi, .int .i64 sn, v, .bool false, .int .i64 0, .int .i64 0, .bool false, .bool false, .int .i64 0, .slice none 0 0, .int .i64 0, .slice none 0 0], .int .i64 0]) ∧ RowF w' w.heap.size v O ∧ Frm No w w' := by
  have F0 := (Frm.refl No w).alloc (.cells #[.int .i64 1, .int .i64 5, .int .i64 16, .int .i64 4, .int .i64 0, .int .i64 0, .int .i64 0, .int .i64 0, .int .i64 0, .int .i64 5000] 26)
  have B0 := Blk.new w #[.int .i64 1, .int .i64 5, .int .i64 16, .int .i64 4, .int .i64 0, .int .i64 0, .int .i64 0, .int .i64 0, .int .i64 0, .int .i64 5000] 26
  obtain ⟨w0, hw0⟩ : ∃ w0, w.alloc (.cells #[.int .i64 1, .int .i64 5, .int .i64 16, .int .i64 4, .int .i64 0, .int .i64 0, .int .i64 0, .int .i64 0, .int .i64 0, .int .i64 5000] 26) = w0 := ⟨_, rfl⟩
  obtain ⟨g, hg⟩ : ∃ g, w.heap.size = g := ⟨_, rfl⟩
  rw [hw0] at F0 B0
  rw [hg] at B0
  have hg0 := B0.lt
  have F1 := F0.alloc (.cells #[.int .i64 0, .slice none 0 0, .int .i64 0, .int .i64 0, .slice none 0 0, .bool false, .int .i64 0, .int .i64 0, .bool false, .bool false, .int .i64 0, .slice none 0 0, .int .i64 0, .slice none 0 0] 56)
  have B1 := Blk.new w0 #[.int .i64 0, .slice none 0 0, .int .i64 0, .int .i64 0, .slice none 0 0, .bool false, .int .i64 0, .int .i64 0, .bool false, .bool false, .int .i64 0, .slice none 0 0, .int .i64 0, .slice none 0 0] 56
  have B01 := B0.alloc (.cells #[.int .i64 0, .slice none 0 0, .int .i64 0, .int .i64 0, .slice none 0 0, .bool false, .int .i64 0, .int .i64 0, .bool false, .bool false, .int .i64 0, .slice none 0 0, .int .i64 0, .slice none 0 0] 56)
  obtain ⟨w1, hw1⟩ : ∃ w1, w0.alloc (.cells #[.int .i64 0, .slice none 0 0, .int .i64 0, .int .i64 0, .slice none 0 0, .bool false, .int .i64 0, .int .i64 0, .bool false, .bool false, .int .i64 0, .slice none 0 0, .int .i64 0, .slice none 0 0] 56) = w1 := ⟨_, rfl⟩
  obtain ⟨g3, hg3⟩ : ∃ g3, w0.heap.size = g3 := ⟨_, rfl⟩
  rw [hw1] at F1 B1 B01
  rw [hg3] at B1
  have hck := check5 w1
  have y0 : w1.cell? ⟨g, 0, none⟩ = some (.int .i64 1) := B01.cell 0
  have y1 : w1.cell? ⟨g, 1, none⟩ = some (.int .i64 5) := B01.cell 1
  have y2 : w1.cell? ⟨g, 2, none⟩ = some (.int .i64 16) := B01.cell 2
  have y3 : w1.cell? ⟨g, 3, none⟩ = some (.int .i64 4) := B01.cell 3
  have y4 : w1.cell? ⟨g, 4, none⟩ = some (.int .i64 0) := B01.cell 4
  have y5 : w1.cell? ⟨g, 5, none⟩ = some (.int .i64 0) := B01.cell 5
  have y6 : w1.cell? ⟨g, 6, none⟩ = some (.int .i64 0) := B01.cell 6
  have y7 : w1.cell? ⟨g, 7, none⟩ = some (.int .i64 0) := B01.cell 7
  have y8 : w1.cell? ⟨g, 8, none⟩ = some (.int .i64 0) := B01.cell 8
  have y9 : w1.cell? ⟨g, 9, none⟩ = some (.int .i64 5000) := B01.cell 9
  have H := Lib.hid (And.intro F1 (And.intro B01 (And.intro B1 (And.intro h (And.intro hl (And.intro hlc (And.intro hok (And.intro ht h256))))))))
  clear F0 B0 F1 B1 B01 h hl hlc hok ht h256
  go_enter Try.func13, Try.ntmps13
  go_wp2_with fail
  refine wp_scope_pass 0 (fun _ _ => False) (fun _ _ => 0) rfl (fun a' wr hF => hF.elim) ?_
  intro hpass
  go_wp2_with fail
  refine hck.mono ?_
  rintro e w2 ⟨rfl, F2⟩
  have F02 := H.out.1.thenN F2
  have G2 := F2.blk H.out.2.1 (fun h => h)
  have P2 := F2.blk H.out.2.2.1 (fun h => h)
  have F3 := F02.alloc (.cells #[.int .i64 0, .slice none 0 0, .int .i64 0, .int .i64 0, .slice none 0 0, .bool false, .int .i64 0, .int .i64 0, .bool false, .bool false, .int .i64 0, .slice none 0 0, .int .i64 0, .slice none 0 0] 56)
  have T3 := Blk.new w2 #[.int .i64 0, .slice none 0 0, .int .i64 0, .int .i64 0, .slice none 0 0, .bool false, .int .i64 0, .int .i64 0, .bool false, .bool false, .int .i64 0, .slice none 0 0, .int .i64 0, .slice none 0 0] 56
  have G3 := G2.alloc (.cells #[.int .i64 0, .slice none 0 0, .int .i64 0, .int .i64 0, .slice none 0 0, .bool false, .int .i64 0, .int .i64 0, .bool false, .bool false, .int .i64 0, .slice none 0 0, .int .i64 0, .slice none 0 0] 56)
  have P3 := P2.alloc (.cells #[.int .i64 0, .slice none 0 0, .int .i64 0, .int .i64 0, .slice none 0 0, .bool false, .int .i64 0, .int .i64 0, .bool false, .bool false, .int .i64 0, .slice none 0 0, .int .i64 0, .slice none 0 0] 56)
  obtain ⟨w3, hw3⟩ : ∃ w3, w2.alloc (.cells #[.int .i64 0, .slice none 0 0, .int .i64 0, .int .i64 0, .slice none 0 0, .bool false, .int .i64 0, .int .i64 0, .bool false, .bool false, .int .i64 0, .slice none 0 0, .int .i64 0, .slice none 0 0] 56) = w3 := ⟨_, rfl⟩
  obtain ⟨g7, hg7⟩ : ∃ g7, w2.heap.size = g7 := ⟨_, rfl⟩
  rw [hw3] at F3 T3 G3 P3
  rw [hg7] at T3
  have k0 : w3.cell? ⟨g, 0, none⟩ = some (.int .i64 1) := G3.cell 0
  have k1 : w3.cell? ⟨g, 1, none⟩ = some (.int .i64 5) := G3.cell 1
  have hg37 : g < g7 := by rw [← hg7]; exact G2.lt
  have hg77 := T3.lt
  have t0 : w3.cell? ⟨g7, 0, none⟩ = some (.int .i64 0) := T3.cell 0
  have ft0 : w3.frozen? ⟨g7, 0, none⟩ = false := T3.free 0
  have H3 := Lib.hid (And.intro F3 (And.intro T3 (And.intro G3 P3)))
  have S4 : Frm (fun x => x = g7) w3 (w3.setCell ⟨g7, 0, none⟩ (.int .i64 1)) := (Frm.refl (fun x => x = g7) w3).self 0 _
  have T4 := T3.set 0 (.int .i64 1)
  have hgw7 : w.heap.size ≤ g7 := by omega
  have hg3l : g3 < g7 := by rw [← hg7]; exact P2.lt
  have hg3g : g < g3 := by rw [← hg3]; exact hg0
  have P4 := S4.blk P3 (fun h => by omega)
  have F4 : Frm No w (w3.setCell ⟨g7, 0, none⟩ (.int .i64 1)) := F3.then S4 (fun x hx => .inr (by omega))
  have hrd := um_read (w3.setCell ⟨g7, 0, none⟩ (.int .i64 1)) A l c 5 fi sn O (by omega) (H.out.2.2.2.1.frmN F4) H.out.2.2.2.2.1 H.out.2.2.2.2.2.1 H.out.2.2.2.2.2.2.1 H.out.2.2.2.2.2.2.2.1 hfi hsn H.out.2.2.2.2.2.2.2.2
  have H4 := Lib.hid (And.intro F4 (And.intro T4 P4))
  clear F02 G2 P2 F3 T3 G3 P3 F2 hck S4 T4 F4 P4
  go_wp2_with fail
  refine hrd.mono ?_
  rintro e w5 ⟨v, rfl, R5, F5⟩
  obtain ⟨nn, hnn⟩ : ∃ nn, O.length = nn := ⟨_, rfl⟩
  obtain ⟨A5, c5, rfl, -⟩ := R5.out hnn
  have T5 := F5.blk H4.out.2.1 (fun h => h)
  have P5 := F5.blk H4.out.2.2 (fun h => h)
  clear hnn t0 ft0
  have t0 : w5.cell? ⟨g7, 0, none⟩ = some (.int .i64 1) := T5.cell 0
  have ft0 : w5.frozen? ⟨g7, 0, none⟩ = false := T5.free 0
  have t1 : w5.cell? ⟨g7, 1, none⟩ = some (.slice none 0 0) := T5.cell 1
  have ft1 : w5.frozen? ⟨g7, 1, none⟩ = false := T5.free 1
  have t2 : w5.cell? ⟨g7, 2, none⟩ = some (.int .i64 0) := T5.cell 2
  have ft2 : w5.frozen? ⟨g7, 2, none⟩ = false := T5.free 2
  have t3 : w5.cell? ⟨g7, 3, none⟩ = some (.int .i64 0) := T5.cell 3
  have ft3 : w5.frozen? ⟨g7, 3, none⟩ = false := T5.free 3
  have t4 : w5.cell? ⟨g7, 4, none⟩ = some (.slice none 0 0) := T5.cell 4
  have ft4 : w5.frozen? ⟨g7, 4, none⟩ = false := T5.free 4
  have t5 : w5.cell? ⟨g7, 5, none⟩ = some (.bool false) := T5.cell 5
  have ft5 : w5.frozen? ⟨g7, 5, none⟩ = false := T5.free 5
  have t6 : w5.cell? ⟨g7, 6, none⟩ = some (.int .i64 0) := T5.cell 6
  have ft6 : w5.frozen? ⟨g7, 6, none⟩ = false := T5.free 6
  have t7 : w5.cell? ⟨g7, 7, none⟩ = some (.int .i64 0) := T5.cell 7
  have ft7 : w5.frozen? ⟨g7, 7, none⟩ = false := T5.free 7
  have t8 : w5.cell? ⟨g7, 8, none⟩ = some (.bool false) := T5.cell 8
  have ft8 : w5.frozen? ⟨g7, 8, none⟩ = false := T5.free 8
  have t9 : w5.cell? ⟨g7, 9, none⟩ = some (.bool false) := T5.cell 9
  have ft9 : w5.frozen? ⟨g7, 9, none⟩ = false := T5.free 9
  have t10 : w5.cell? ⟨g7, 10, none⟩ = some (.int .i64 0) := T5.cell 10
  have ft10 : w5.frozen? ⟨g7, 10, none⟩ = false := T5.free 10
  have t11 : w5.cell? ⟨g7, 11, none⟩ = some (.slice none 0 0) := T5.cell 11
  have ft11 : w5.frozen? ⟨g7, 11, none⟩ = false := T5.free 11
  have t12 : w5.cell? ⟨g7, 12, none⟩ = some (.int .i64 0) := T5.cell 12
  have ft12 : w5.frozen? ⟨g7, 12, none⟩ = false := T5.free 12
  have t13 : w5.cell? ⟨g7, 13, none⟩ = some (.slice none 0 0) := T5.cell 13
  have ft13 : w5.frozen? ⟨g7, 13, none⟩ = false := T5.free 13
  have r0 : w5.cell? ⟨g3, 0, none⟩ = some (.int .i64 0) := P5.cell 0
  have fr0 : w5.frozen? ⟨g3, 0, none⟩ = false := P5.free 0
  have r1 : w5.cell? ⟨g3, 1, none⟩ = some (.slice none 0 0) := P5.cell 1
  have fr1 : w5.frozen? ⟨g3, 1, none⟩ = false := P5.free 1
  have r2 : w5.cell? ⟨g3, 2, none⟩ = some (.int .i64 0) := P5.cell 2
  have fr2 : w5.frozen? ⟨g3, 2, none⟩ = false := P5.free 2
  have r3 : w5.cell? ⟨g3, 3, none⟩ = some (.int .i64 0) := P5.cell 3
  have fr3 : w5.frozen? ⟨g3, 3, none⟩ = false := P5.free 3
  have r4 : w5.cell? ⟨g3, 4, none⟩ = some (.slice none 0 0) := P5.cell 4
  have fr4 : w5.frozen? ⟨g3, 4, none⟩ = false := P5.free 4
  have r5 : w5.cell? ⟨g3, 5, none⟩ = some (.bool false) := P5.cell 5
  have fr5 : w5.frozen? ⟨g3, 5, none⟩ = false := P5.free 5
  have r6 : w5.cell? ⟨g3, 6, none⟩ = some (.int .i64 0) := P5.cell 6
  have fr6 : w5.frozen? ⟨g3, 6, none⟩ = false := P5.free 6
  have r7 : w5.cell? ⟨g3, 7, none⟩ = some (.int .i64 0) := P5.cell 7
  have fr7 : w5.frozen? ⟨g3, 7, none⟩ = false := P5.free 7
  have r8 : w5.cell? ⟨g3, 8, none⟩ = some (.bool false) := P5.cell 8
  have fr8 : w5.frozen? ⟨g3, 8, none⟩ = false := P5.free 8
  have r9 : w5.cell? ⟨g3, 9, none⟩ = some (.bool false) := P5.cell 9
  have fr9 : w5.frozen? ⟨g3, 9, none⟩ = false := P5.free 9
  have r10 : w5.cell? ⟨g3, 10, none⟩ = some (.int .i64 0) := P5.cell 10
  have fr10 : w5.frozen? ⟨g3, 10, none⟩ = false := P5.free 10
  have r11 : w5.cell? ⟨g3, 11, none⟩ = some (.slice none 0 0) := P5.cell 11
  have fr11 : w5.frozen? ⟨g3, 11, none⟩ = false := P5.free 11
  have r12 : w5.cell? ⟨g3, 12, none⟩ = some (.int .i64 0) := P5.cell 12
  have fr12 : w5.frozen? ⟨g3, 12, none⟩ = false := P5.free 12
  have r13 : w5.cell? ⟨g3, 13, none⟩ = some (.slice none 0 0) := P5.cell 13
  have fr13 : w5.frozen? ⟨g3, 13, none⟩ = false := P5.free 13
  have hg75 := T5.lt
  have hg35 := P5.lt
  have H5 := Lib.hid (And.intro (H4.out.1.thenN F5) (And.intro T5 (And.intro R5 P5)))
  clear T5 P5 R5 F5 hrd
  go_wp2_with fail
  obtain ⟨wa, hwa⟩ : ∃ wa, ((w5.setCell ⟨g7, 2, none⟩ (.int .i64 (fi : Int))).setCell ⟨g7, 3, none⟩ (.int .i64 (sn : Int))).setCell ⟨g7, 4, none⟩ (.slice A5 nn c5) = wa := ⟨_, rfl⟩
  rw [hwa]
  have Fa : Frm (fun x => x = g7) w5 wa := by rw [← hwa]; exact (((Frm.refl (fun x => x = g7) w5).self 2 _).self 3 _).self 4 _
  have Pa : Blk wa g3 #[.int .i64 0, .slice none 0 0, .int .i64 0, .int .i64 0, .slice none 0 0, .bool false, .int .i64 0, .int .i64 0, .bool false, .bool false, .int .i64 0, .slice none 0 0, .int .i64 0, .slice none 0 0] 56 := Fa.blk H5.out.2.2.2 (fun h => by omega)
  have Fx0 : Frm (fun x => x = g3) wa wa := Frm.refl _ wa
  have Fx1 : Frm (fun x => x = g3) wa (wa.setCell ⟨g3, 0, none⟩ (.int .i64 1)) := Fx0.self 0 _
  have Px1 : Blk (wa.setCell ⟨g3, 0, none⟩ (.int .i64 1)) g3 #[.int .i64 1, .slice none 0 0, .int .i64 0, .int .i64 0, .slice none 0 0, .bool false, .int .i64 0, .int .i64 0, .bool false, .bool false, .int .i64 0, .slice none 0 0, .int .i64 0, .slice none 0 0] 56 := Pa.set 0 _
  obtain ⟨wx0, hwx0⟩ : ∃ wx, wa.setCell ⟨g3, 0, none⟩ (.int .i64 1) = wx := ⟨_, rfl⟩
  rw [hwx0] at Fx1 Px1 ⊢
  clear hwx0
  have Fx2 : Frm (fun x => x = g3) wa (wx0.setCell ⟨g3, 1, none⟩ (.slice none 0 0)) := Fx1.self 1 _
  have Px2 : Blk (wx0.setCell ⟨g3, 1, none⟩ (.slice none 0 0)) g3 #[.int .i64 1, .slice none 0 0, .int .i64 0, .int .i64 0, .slice none 0 0, .bool false, .int .i64 0, .int .i64 0, .bool false, .bool false, .int .i64 0, .slice none 0 0, .int .i64 0, .slice none 0 0] 56 := Px1.set 1 _
  obtain ⟨wx1, hwx1⟩ : ∃ wx, wx0.setCell ⟨g3, 1, none⟩ (.slice none 0 0) = wx := ⟨_, rfl⟩
  rw [hwx1] at Fx2 Px2 ⊢
  clear hwx1 Px1 Fx1
  have Fx3 : Frm (fun x => x = g3) wa (wx1.setCell ⟨g3, 2, none⟩ (.int .i64 (fi : Int))) := Fx2.self 2 _
  have Px3 : Blk (wx1.setCell ⟨g3, 2, none⟩ (.int .i64 (fi : Int))) g3 #[.int .i64 1, .slice none 0 0, .int .i64 (fi : Int), .int .i64 0, .slice none 0 0, .bool false, .int .i64 0, .int .i64 0, .bool false, .bool false, .int .i64 0, .slice none 0 0, .int .i64 0, .slice none 0 0] 56 := Px2.set 2 _
  obtain ⟨wx2, hwx2⟩ : ∃ wx, wx1.setCell ⟨g3, 2, none⟩ (.int .i64 (fi : Int)) = wx := ⟨_, rfl⟩
  rw [hwx2] at Fx3 Px3 ⊢
  clear hwx2 Px2 Fx2
  have Fx4 : Frm (fun x => x = g3) wa (wx2.setCell ⟨g3, 3, none⟩ (.int .i64 (sn : Int))) := Fx3.self 3 _
  have Px4 : Blk (wx2.setCell ⟨g3, 3, none⟩ (.int .i64 (sn : Int))) g3 #[.int .i64 1, .slice none 0 0, .int .i64 (fi : Int), .int .i64 (sn : Int), .slice none 0 0, .bool false, .int .i64 0, .int .i64 0, .bool false, .bool false, .int .i64 0, .slice none 0 0, .int .i64 0, .slice none 0 0] 56 := Px3.set 3 _
  obtain ⟨wx3, hwx3⟩ : ∃ wx, wx2.setCell ⟨g3, 3, none⟩ (.int .i64 (sn : Int)) = wx := ⟨_, rfl⟩
  rw [hwx3] at Fx4 Px4 ⊢
  clear hwx3 Px3 Fx3
  have Fx5 : Frm (fun x => x = g3) wa (wx3.setCell ⟨g3, 4, none⟩ (.slice A5 nn c5)) := Fx4.self 4 _
  have Px5 : Blk (wx3.setCell ⟨g3, 4, none⟩ (.slice A5 nn c5)) g3 #[.int .i64 1, .slice none 0 0, .int .i64 (fi : Int), .int .i64 (sn : Int), .slice A5 nn c5, .bool false, .int .i64 0, .int .i64 0, .bool false, .bool false, .int .i64 0, .slice none 0 0, .int .i64 0, .slice none 0 0] 56 := Px4.set 4 _
  obtain ⟨wx4, hwx4⟩ : ∃ wx, wx3.setCell ⟨g3, 4, none⟩ (.slice A5 nn c5) = wx := ⟨_, rfl⟩
  rw [hwx4] at Fx5 Px5 ⊢
  clear hwx4 Px4 Fx4
  have Fx6 : Frm (fun x => x = g3) wa (wx4.setCell ⟨g3, 5, none⟩ (.bool false)) := Fx5.self 5 _
  have Px6 : Blk (wx4.setCell ⟨g3, 5, none⟩ (.bool false)) g3 #[.int .i64 1, .slice none 0 0, .int .i64 (fi : Int), .int .i64 (sn : Int), .slice A5 nn c5, .bool false, .int .i64 0, .int .i64 0, .bool false, .bool false, .int .i64 0, .slice none 0 0, .int .i64 0, .slice none 0 0] 56 := Px5.set 5 _
  obtain ⟨wx5, hwx5⟩ : ∃ wx, wx4.setCell ⟨g3, 5, none⟩ (.bool false) = wx := ⟨_, rfl⟩
  rw [hwx5] at Fx6 Px6 ⊢
  clear hwx5 Px5 Fx5
  have Fx7 : Frm (fun x => x = g3) wa (wx5.setCell ⟨g3, 6, none⟩ (.int .i64 0)) := Fx6.self 6 _
  have Px7 : Blk (wx5.setCell ⟨g3, 6, none⟩ (.int .i64 0)) g3 #[.int .i64 1, .slice none 0 0, .int .i64 (fi : Int), .int .i64 (sn : Int), .slice A5 nn c5, .bool false, .int .i64 0, .int .i64 0, .bool false, .bool false, .int .i64 0, .slice none 0 0, .int .i64 0, .slice none 0 0] 56 := Px6.set 6 _
  obtain ⟨wx6, hwx6⟩ : ∃ wx, wx5.setCell ⟨g3, 6, none⟩ (.int .i64 0) = wx := ⟨_, rfl⟩
  rw [hwx6] at Fx7 Px7 ⊢
  clear hwx6 Px6 Fx6
  have Fx8 : Frm (fun x => x = g3) wa (wx6.setCell ⟨g3, 7, none⟩ (.int .i64 0)) := Fx7.self 7 _
  have Px8 : Blk (wx6.setCell ⟨g3, 7, none⟩ (.int .i64 0)) g3 #[.int .i64 1, .slice none 0 0, .int .i64 (fi : Int), .int .i64 (sn : Int), .slice A5 nn c5, .bool false, .int .i64 0, .int .i64 0, .bool false, .bool false, .int .i64 0, .slice none 0 0, .int .i64 0, .slice none 0 0] 56 := Px7.set 7 _
  obtain ⟨wx7, hwx7⟩ : ∃ wx, wx6.setCell ⟨g3, 7, none⟩ (.int .i64 0) = wx := ⟨_, rfl⟩
  rw [hwx7] at Fx8 Px8 ⊢
  clear hwx7 Px7 Fx7
  have Fx9 : Frm (fun x => x = g3) wa (wx7.setCell ⟨g3, 8, none⟩ (.bool false)) := Fx8.self 8 _
  have Px9 : Blk (wx7.setCell ⟨g3, 8, none⟩ (.bool false)) g3 #[.int .i64 1, .slice none 0 0, .int .i64 (fi : Int), .int .i64 (sn : Int), .slice A5 nn c5, .bool false, .int .i64 0, .int .i64 0, .bool false, .bool false, .int .i64 0, .slice none 0 0, .int .i64 0, .slice none 0 0] 56 := Px8.set 8 _
  obtain ⟨wx8, hwx8⟩ : ∃ wx, wx7.setCell ⟨g3, 8, none⟩ (.bool false) = wx := ⟨_, rfl⟩
  rw [hwx8] at Fx9 Px9 ⊢
  clear hwx8 Px8 Fx8
  have Fx10 : Frm (fun x => x = g3) wa (wx8.setCell ⟨g3, 9, none⟩ (.bool false)) := Fx9.self 9 _
  have Px10 : Blk (wx8.setCell ⟨g3, 9, none⟩ (.bool false)) g3 #[.int .i64 1, .slice none 0 0, .int .i64 (fi : Int), .int .i64 (sn : Int), .slice A5 nn c5, .bool false, .int .i64 0, .int .i64 0, .bool false, .bool false, .int .i64 0, .slice none 0 0, .int .i64 0, .slice none 0 0] 56 := Px9.set 9 _
  obtain ⟨wx9, hwx9⟩ : ∃ wx, wx8.setCell ⟨g3, 9, none⟩ (.bool false) = wx := ⟨_, rfl⟩
  rw [hwx9] at Fx10 Px10 ⊢
  clear hwx9 Px9 Fx9
  have Fx11 : Frm (fun x => x = g3) wa (wx9.setCell ⟨g3, 10, none⟩ (.int .i64 0)) := Fx10.self 10 _
  have Px11 : Blk (wx9.setCell ⟨g3, 10, none⟩ (.int .i64 0)) g3 #[.int .i64 1, .slice none 0 0, .int .i64 (fi : Int), .int .i64 (sn : Int), .slice A5 nn c5, .bool false, .int .i64 0, .int .i64 0, .bool false, .bool false, .int .i64 0, .slice none 0 0, .int .i64 0, .slice none 0 0] 56 := Px10.set 10 _
  obtain ⟨wx10, hwx10⟩ : ∃ wx, wx9.setCell ⟨g3, 10, none⟩ (.int .i64 0) = wx := ⟨_, rfl⟩
  rw [hwx10] at Fx11 Px11 ⊢
  clear hwx10 Px10 Fx10
  have Fx12 : Frm (fun x => x = g3) wa (wx10.setCell ⟨g3, 11, none⟩ (.slice none 0 0)) := Fx11.self 11 _
  have Px12 : Blk (wx10.setCell ⟨g3, 11, none⟩ (.slice none 0 0)) g3 #[.int .i64 1, .slice none 0 0, .int .i64 (fi : Int), .int .i64 (sn : Int), .slice A5 nn c5, .bool false, .int .i64 0, .int .i64 0, .bool false, .bool false, .int .i64 0, .slice none 0 0, .int .i64 0, .slice none 0 0] 56 := Px11.set 11 _
  obtain ⟨wx11, hwx11⟩ : ∃ wx, wx10.setCell ⟨g3, 11, none⟩ (.slice none 0 0) = wx := ⟨_, rfl⟩
  rw [hwx11] at Fx12 Px12 ⊢
  clear hwx11 Px11 Fx11
  have Fx13 : Frm (fun x => x = g3) wa (wx11.setCell ⟨g3, 12, none⟩ (.int .i64 0)) := Fx12.self 12 _
  have Px13 : Blk (wx11.setCell ⟨g3, 12, none⟩ (.int .i64 0)) g3 #[.int .i64 1, .slice none 0 0, .int .i64 (fi : Int), .int .i64 (sn : Int), .slice A5 nn c5, .bool false, .int .i64 0, .int .i64 0, .bool false, .bool false, .int .i64 0, .slice none 0 0, .int .i64 0, .slice none 0 0] 56 := Px12.set 12 _
  obtain ⟨wx12, hwx12⟩ : ∃ wx, wx11.setCell ⟨g3, 12, none⟩ (.int .i64 0) = wx := ⟨_, rfl⟩
  rw [hwx12] at Fx13 Px13 ⊢
  clear hwx12 Px12 Fx12
  have Fx14 : Frm (fun x => x = g3) wa (wx12.setCell ⟨g3, 13, none⟩ (.slice none 0 0)) := Fx13.self 13 _
  have Px14 : Blk (wx12.setCell ⟨g3, 13, none⟩ (.slice none 0 0)) g3 #[.int .i64 1, .slice none 0 0, .int .i64 (fi : Int), .int .i64 (sn : Int), .slice A5 nn c5, .bool false, .int .i64 0, .int .i64 0, .bool false, .bool false, .int .i64 0, .slice none 0 0, .int .i64 0, .slice none 0 0] 56 := Px13.set 13 _
  obtain ⟨wx13, hwx13⟩ : ∃ wx, wx12.setCell ⟨g3, 13, none⟩ (.slice none 0 0) = wx := ⟨_, rfl⟩
  rw [hwx13] at Fx14 Px14 ⊢
  clear hwx13 Px13 Fx13
  refine jump_ret ?_
  refine bodyPost_ret (fn := Try.f13) (ret_cell_tmp (by rfl) _ _ g3 56 _ _ rfl Px14 Try.underlying56 rfl size56) rfl ?_
  have nt : ∀ t, t ≠ 56 → ∀ x cs, Blk w5 x cs t → ¬ (x = g7) := fun t ht x cs hx e => by subst e; exact Blk.ne hx H5.out.2.1 ht rfl
  have nt2 : ∀ t, t ≠ 56 → ∀ x cs, Blk wa x cs t → ¬ (x = g3) := fun t ht x cs hx e => by subst e; exact Blk.ne hx Pa ht rfl
  exact ⟨_, rfl, ((H5.out.2.2.1.lower (by have := H4.out.1.size; simpa using this)).frm Fa (nt 24 (by decide)) (nt 5 (by decide))).frm Fx14 (nt2 24 (by decide)) (nt2 5 (by decide)), (H5.out.1.then Fa (fun x hx => .inr (by omega))).then Fx14 (fun x hx => .inr (by omega))⟩
set_option maxRecDepth 100000 in
set_option maxHeartbeats 4000000 in
theorem pd_read10 (w : World) (A : Option Addr) (l c fi sn : Nat) (O : List (List Nat)) (h : Bin w A (wireOf 10 fi sn O)) (hl : (wireOf 10 fi sn O).length = l) (hlc : l ≤ c) (hok : FldOk O) (ht : tot O ≤ 3000) (hfi : fi ≤ 3) (hsn : sn ≤ 31) (h256 : ∀ f ∈ O, ∀ x ∈ f, x < 256) :
    Calls Try.prog 13 #[.agg #[.int .i64 1, .int .i64 10, .int .i64 16, .int .i64 4, .int .i64 0, .int .i64 0, .int .i64 0, .int .i64 0, .int .i64 0, .int .i64 5000], .slice A l c] w fun e w' => ∃ v, e = .returned (.tuple #[.agg #[.int .i64 1, .slice none 0 0, .int .i64 fi, .int .i64 sn, v, .bool false, .int .i64 0, .int .i64 0, .bool false, .bool false, .int .i64 0, .slice none 0 0, .int .i64 0, .slice none 0 0], .int .i64 0]) ∧ RowF w' w.heap.size v O ∧ Frm No w w' := by
  have F0 := (Frm.refl No w).alloc (.cells #[.int .i64 1, .int .i64 10, .int .i64 16, .int .i64 4, .int .i64 0, .int .i64 0, .int .i64 0, .int .i64 0, .int .i64 0, .int .i64 5000] 26)
  have B0 := Blk.new w #[.int .i64 1, .int .i64 10, .int .i64 16, .int .i64 4, .int .i64 0, .int .i64 0, .int .i64 0, .int .i64 0, .int .i64 0, .int .i64 5000] 26
  obtain ⟨w0, hw0⟩ : ∃ w0, w.alloc (.cells #[.int .i64 1, .int .i64 10, .int .i64 16, .int .i64 4, .int .i64 0, .int .i64 0, .int .i64 0, .int .i64 0, .int .i64 0, .int .i64 5000] 26) = w0 := ⟨_, rfl⟩
  obtain ⟨g, hg⟩ : ∃ g, w.heap.size = g := ⟨_, rfl⟩
  rw [hw0] at F0 B0
  rw [hg] at B0
  have hg0 := B0.lt
  have F1 := F0.alloc (.cells #[.int .i64 0, .slice none 0 0, .int .i64 0, .int .i64 0, .slice none 0 0, .bool false, .int .i64 0, .int .i64 0, .bool false, .bool false, .int .i64 0, .slice none 0 0, .int .i64 0, .slice none 0 0] 56)
  have B1 := Blk.new w0 #[.int .i64 0, .slice none 0 0, .int .i64 0, .int .i64 0, .slice none 0 0, .bool false, .int .i64 0, .int .i64 0, .bool false, .bool false, .int .i64 0, .slice none 0 0, .int .i64 0, .slice none 0 0] 56
  have B01 := B0.alloc (.cells #[.int .i64 0, .slice none 0 0, .int .i64 0, .int .i64 0, .slice none 0 0, .bool false, .int .i64 0, .int .i64 0, .bool false, .bool false, .int .i64 0, .slice none 0 0, .int .i64 0, .slice none 0 0] 56)
  obtain ⟨w1, hw1⟩ : ∃ w1, w0.alloc (.cells #[.int .i64 0, .slice none 0 0, .int .i64 0, .int .i64 0, .slice none 0 0, .bool false, .int .i64 0, .int .i64 0, .bool false, .bool false, .int .i64 0, .slice none 0 0, .int .i64 0, .slice none 0 0] 56) = w1 := ⟨_, rfl⟩
  obtain ⟨g3, hg3⟩ : ∃ g3, w0.heap.size = g3 := ⟨_, rfl⟩
  rw [hw1] at F1 B1 B01
  rw [hg3] at B1
  have hck := check10 w1
  have y0 : w1.cell? ⟨g, 0, none⟩ = some (.int .i64 1) := B01.cell 0
  have y1 : w1.cell? ⟨g, 1, none⟩ = some (.int .i64 10) := B01.cell 1
  have y2 : w1.cell? ⟨g, 2, none⟩ = some (.int .i64 16) := B01.cell 2
  have y3 : w1.cell? ⟨g, 3, none⟩ = some (.int .i64 4) := B01.cell 3
  have y4 : w1.cell? ⟨g, 4, none⟩ = some (.int .i64 0) := B01.cell 4
  have y5 : w1.cell? ⟨g, 5, none⟩ = some (.int .i64 0) := B01.cell 5
  have y6 : w1.cell? ⟨g, 6, none⟩ = some (.int .i64 0) := B01.cell 6
  have y7 : w1.cell? ⟨g, 7, none⟩ = some (.int .i64 0) := B01.cell 7
  have y8 : w1.cell? ⟨g, 8, none⟩ = some (.int .i64 0) := B01.cell 8
  have y9 : w1.cell? ⟨g, 9, none⟩ = some (.int .i64 5000) := B01.cell 9
  have H := Lib.hid (And.intro F1 (And.intro B01 (And.intro B1 (And.intro h (And.intro hl (And.intro hlc (And.intro hok (And.intro ht h256))))))))
  clear F0 B0 F1 B1 B01 h hl hlc hok ht h256
  go_enter Try.func13, Try.ntmps13
  go_wp2_with fail
  refine wp_scope_pass 0 (fun _ _ => False) (fun _ _ => 0) rfl (fun a' wr hF => hF.elim) ?_
  intro hpass
  go_wp2_with fail
  refine hck.mono ?_
  rintro e w2 ⟨rfl, F2⟩
  have F02 := H.out.1.thenN F2
  have G2 := F2.blk H.out.2.1 (fun h => h)
  have P2 := F2.blk H.out.2.2.1 (fun h => h)
  have F3 := F02.alloc (.cells #[.int .i64 0, .slice none 0 0, .int .i64 0, .int .i64 0, .slice none 0 0, .bool false, .int .i64 0, .int .i64 0, .bool false, .bool false, .int .i64 0, .slice none 0 0, .int .i64 0, .slice none 0 0] 56)
  have T3 := Blk.new w2 #[.int .i64 0, .slice none 0 0, .int .i64 0, .int .i64 0, .slice none 0 0, .bool false, .int .i64 0, .int .i64 0, .bool false, .bool false, .int .i64 0, .slice none 0 0, .int .i64 0, .slice none 0 0] 56
  have G3 := G2.alloc (.cells #[.int .i64 0, .slice none 0 0, .int .i64 0, .int .i64 0, .slice none 0 0, .bool false, .int .i64 0, .int .i64 0, .bool false, .bool false, .int .i64 0, .slice none 0 0, .int .i64 0, .slice none 0 0] 56)
  have P3 := P2.alloc (.cells #[.int .i64 0, .slice none 0 0, .int .i64 0, .int .i64 0, .slice none 0 0, .bool false, .int .i64 0, .int .i64 0, .bool false, .bool false, .int .i64 0, .slice none 0 0, .int .i64 0, .slice none 0 0] 56)
  obtain ⟨w3, hw3⟩ : ∃ w3, w2.alloc (.cells #[.int .i64 0, .slice none 0 0, .int .i64 0, .int .i64 0, .slice none 0 0, .bool false, .int .i64 0, .int .i64 0, .bool false, .bool false, .int .i64 0, .slice none 0 0, .int .i64 0, .slice none 0 0] 56) = w3 := ⟨_, rfl⟩
  obtain ⟨g7, hg7⟩ : ∃ g7, w2.heap.size = g7 := ⟨_, rfl⟩
  rw [hw3] at F3 T3 G3 P3
  rw [hg7] at T3
  have k0 : w3.cell? ⟨g, 0, none⟩ = some (.int .i64 1) := G3.cell 0
  have k1 : w3.cell? ⟨g, 1, none⟩ = some (.int .i64 10) := G3.cell 1
  have hg37 : g < g7 := by rw [← hg7]; exact G2.lt
  have hg77 := T3.lt
  have t0 : w3.cell? ⟨g7, 0, none⟩ = some (.int .i64 0) := T3.cell 0
  have ft0 : w3.frozen? ⟨g7, 0, none⟩ = false := T3.free 0
  have H3 := Lib.hid (And.intro F3 (And.intro T3 (And.intro G3 P3)))
  have S4 : Frm (fun x => x = g7) w3 (w3.setCell ⟨g7, 0, none⟩ (.int .i64 1)) := (Frm.refl (fun x => x = g7) w3).self 0 _
  have T4 := T3.set 0 (.int .i64 1)
  have hgw7 : w.heap.size ≤ g7 := by omega
  have hg3l : g3 < g7 := by rw [← hg7]; exact P2.lt
  have hg3g : g < g3 := by rw [← hg3]; exact hg0
  have P4 := S4.blk P3 (fun h => by omega)
  have F4 : Frm No w (w3.setCell ⟨g7, 0, none⟩ (.int .i64 1)) := F3.then S4 (fun x hx => .inr (by omega))
  have hrd := um_read (w3.setCell ⟨g7, 0, none⟩ (.int .i64 1)) A l c 10 fi sn O (by omega) (H.out.2.2.2.1.frmN F4) H.out.2.2.2.2.1 H.out.2.2.2.2.2.1 H.out.2.2.2.2.2.2.1 H.out.2.2.2.2.2.2.2.1 hfi hsn H.out.2.2.2.2.2.2.2.2
  have H4 := Lib.hid (And.intro F4 (And.intro T4 P4))
  clear F02 G2 P2 F3 T3 G3 P3 F2 hck S4 T4 F4 P4
  go_wp2_with fail
  refine hrd.mono ?_
  rintro e w5 ⟨v, rfl, R5, F5⟩
  obtain ⟨nn, hnn⟩ : ∃ nn, O.length = nn := ⟨_, rfl⟩
  obtain ⟨A5, c5, rfl, -⟩ := R5.out hnn
  have T5 := F5.blk H4.out.2.1 (fun h => h)
  have P5 := F5.blk H4.out.2.2 (fun h => h)
  clear hnn t0 ft0
  have t0 : w5.cell? ⟨g7, 0, none⟩ = some (.int .i64 1) := T5.cell 0
  have ft0 : w5.frozen? ⟨g7, 0, none⟩ = false := T5.free 0
  have t1 : w5.cell? ⟨g7, 1, none⟩ = some (.slice none 0 0) := T5.cell 1
  have ft1 : w5.frozen? ⟨g7, 1, none⟩ = false := T5.free 1
  have t2 : w5.cell? ⟨g7, 2, none⟩ = some (.int .i64 0) := T5.cell 2
  have ft2 : w5.frozen? ⟨g7, 2, none⟩ = false := T5.free 2
  have t3 : w5.cell? ⟨g7, 3, none⟩ = some (.int .i64 0) := T5.cell 3
  have ft3 : w5.frozen? ⟨g7, 3, none⟩ = false := T5.free 3
  have t4 : w5.cell? ⟨g7, 4, none⟩ = some (.slice none 0 0) := T5.cell 4
  have ft4 : w5.frozen? ⟨g7, 4, none⟩ = false := T5.free 4
  have t5 : w5.cell? ⟨g7, 5, none⟩ = some (.bool false) := T5.cell 5
  have ft5 : w5.frozen? ⟨g7, 5, none⟩ = false := T5.free 5
  have t6 : w5.cell? ⟨g7, 6, none⟩ = some (.int .i64 0) := T5.cell 6
  have ft6 : w5.frozen? ⟨g7, 6, none⟩ = false := T5.free 6
  have t7 : w5.cell? ⟨g7, 7, none⟩ = some (.int .i64 0) := T5.cell 7
  have ft7 : w5.frozen? ⟨g7, 7, none⟩ = false := T5.free 7
  have t8 : w5.cell? ⟨g7, 8, none⟩ = some (.bool false) := T5.cell 8
  have ft8 : w5.frozen? ⟨g7, 8, none⟩ = false := T5.free 8
  have t9 : w5.cell? ⟨g7, 9, none⟩ = some (.bool false) := T5.cell 9
  have ft9 : w5.frozen? ⟨g7, 9, none⟩ = false := T5.free 9
  have t10 : w5.cell? ⟨g7, 10, none⟩ = some (.int .i64 0) := T5.cell 10
  have ft10 : w5.frozen? ⟨g7, 10, none⟩ = false := T5.free 10
  have t11 : w5.cell? ⟨g7, 11, none⟩ = some (.slice none 0 0) := T5.cell 11
  have ft11 : w5.frozen? ⟨g7, 11, none⟩ = false := T5.free 11
  have t12 : w5.cell? ⟨g7, 12, none⟩ = some (.int .i64 0) := T5.cell 12
  have ft12 : w5.frozen? ⟨g7, 12, none⟩ = false := T5.free 12
  have t13 : w5.cell? ⟨g7, 13, none⟩ = some (.slice none 0 0) := T5.cell 13
  have ft13 : w5.frozen? ⟨g7, 13, none⟩ = false := T5.free 13
  have r0 : w5.cell? ⟨g3, 0, none⟩ = some (.int .i64 0) := P5.cell 0
  have fr0 : w5.frozen? ⟨g3, 0, none⟩ = false := P5.free 0
  have r1 : w5.cell? ⟨g3, 1, none⟩ = some (.slice none 0 0) := P5.cell 1
  have fr1 : w5.frozen? ⟨g3, 1, none⟩ = false := P5.free 1
  have r2 : w5.cell? ⟨g3, 2, none⟩ = some (.int .i64 0) := P5.cell 2
  have fr2 : w5.frozen? ⟨g3, 2, none⟩ = false := P5.free 2
  have r3 : w5.cell? ⟨g3, 3, none⟩ = some (.int .i64 0) := P5.cell 3
  have fr3 : w5.frozen? ⟨g3, 3, none⟩ = false := P5.free 3
  have r4 : w5.cell? ⟨g3, 4, none⟩ = some (.slice none 0 0) := P5.cell 4
  have fr4 : w5.frozen? ⟨g3, 4, none⟩ = false := P5.free 4
  have r5 : w5.cell? ⟨g3, 5, none⟩ = some (.bool false) := P5.cell 5
  have fr5 : w5.frozen? ⟨g3, 5, none⟩ = false := P5.free 5
  have r6 : w5.cell? ⟨g3, 6, none⟩ = some (.int .i64 0) := P5.cell 6
  have fr6 : w5.frozen? ⟨g3, 6, none⟩ = false := P5.free 6
  have r7 : w5.cell? ⟨g3, 7, none⟩ = some (.int .i64 0) := P5.cell 7
  have fr7 : w5.frozen? ⟨g3, 7, none⟩ = false := P5.free 7
  have r8 : w5.cell? ⟨g3, 8, none⟩ = some (.bool false) := P5.cell 8
  have fr8 : w5.frozen? ⟨g3, 8, none⟩ = false := P5.free 8
  have r9 : w5.cell? ⟨g3, 9, none⟩ = some (.bool false) := P5.cell 9
  have fr9 : w5.frozen? ⟨g3, 9, none⟩ = false := P5.free 9
  have r10 : w5.cell? ⟨g3, 10, none⟩ = some (.int .i64 0) := P5.cell 10
  have fr10 : w5.frozen? ⟨g3, 10, none⟩ = false := P5.free 10
  have r11 : w5.cell? ⟨g3, 11, none⟩ = some (.slice none 0 0) := P5.cell 11
  have fr11 : w5.frozen? ⟨g3, 11, none⟩ = false := P5.free 11
  have r12 : w5.cell? ⟨g3, 12, none⟩ = some (.int .i64 0) := P5.cell 12
  have fr12 : w5.frozen? ⟨g3, 12, none⟩ = false := P5.free 12
  have r13 : w5.cell? ⟨g3, 13, none⟩ = some (.slice none 0 0) := P5.cell 13
  have fr13 : w5.frozen? ⟨g3, 13, none⟩ = false := P5.free 13
  have hg75 := T5.lt
  have hg35 := P5.lt
  have H5 := Lib.hid (And.intro (H4.out.1.thenN F5) (And.intro T5 (And.intro R5 P5)))
  clear T5 P5 R5 F5 hrd
  go_wp2_with fail
  obtain ⟨wa, hwa⟩ : ∃ wa, ((w5.setCell ⟨g7, 2, none⟩ (.int .i64 (fi : Int))).setCell ⟨g7, 3, none⟩ (.int .i64 (sn : Int))).setCell ⟨g7, 4, none⟩ (.slice A5 nn c5) = wa := ⟨_, rfl⟩
  rw [hwa]
  have Fa : Frm (fun x => x = g7) w5 wa := by rw [← hwa]; exact (((Frm.refl (fun x => x = g7) w5).self 2 _).self 3 _).self 4 _
  have Pa : Blk wa g3 #[.int .i64 0, .slice none 0 0, .int .i64 0, .int .i64 0, .slice none 0 0, .bool false, .int .i64 0, .int .i64 0, .bool false, .bool false, .int .i64 0, .slice none 0 0, .int .i64 0, .slice none 0 0] 56 := Fa.blk H5.out.2.2.2 (fun h => by omega)
  have Fx0 : Frm (fun x => x = g3) wa wa := Frm.refl _ wa
  have Fx1 : Frm (fun x => x = g3) wa (wa.setCell ⟨g3, 0, none⟩ (.int .i64 1)) := Fx0.self 0 _
  have Px1 : Blk (wa.setCell ⟨g3, 0, none⟩ (.int .i64 1)) g3 #[.int .i64 1, .slice none 0 0, .int .i64 0, .int .i64 0, .slice none 0 0, .bool false, .int .i64 0, .int .i64 0, .bool false, .bool false, .int .i64 0, .slice none 0 0, .int .i64 0, .slice none 0 0] 56 := Pa.set 0 _
  obtain ⟨wx0, hwx0⟩ : ∃ wx, wa.setCell ⟨g3, 0, none⟩ (.int .i64 1) = wx := ⟨_, rfl⟩
  rw [hwx0] at Fx1 Px1 ⊢
  clear hwx0
  have Fx2 : Frm (fun x => x = g3) wa (wx0.setCell ⟨g3, 1, none⟩ (.slice none 0 0)) := Fx1.self 1 _
  have Px2 : Blk (wx0.setCell ⟨g3, 1, none⟩ (.slice none 0 0)) g3 #[.int .i64 1, .slice none 0 0, .int .i64 0, .int .i64 0, .slice none 0 0, .bool false, .int .i64 0, .int .i64 0, .bool false, .bool false, .int .i64 0, .slice none 0 0, .int .i64 0, .slice none 0 0] 56 := Px1.set 1 _
  obtain ⟨wx1, hwx1⟩ : ∃ wx, wx0.setCell ⟨g3, 1, none⟩ (.slice none 0 0) = wx := ⟨_, rfl⟩
  rw [hwx1] at Fx2 Px2 ⊢
  clear hwx1 Px1 Fx1
  have Fx3 : Frm (fun x => x = g3) wa (wx1.setCell ⟨g3, 2, none⟩ (.int .i64 (fi : Int))) := Fx2.self 2 _
  have Px3 : Blk (wx1.setCell ⟨g3, 2, none⟩ (.int .i64 (fi : Int))) g3 #[.int .i64 1, .slice none 0 0, .int .i64 (fi : Int), .int .i64 0, .slice none 0 0, .bool false, .int .i64 0, .int .i64 0, .bool false, .bool false, .int .i64 0, .slice none 0 0, .int .i64 0, .slice none 0 0] 56 := Px2.set 2 _
  obtain ⟨wx2, hwx2⟩ : ∃ wx, wx1.setCell ⟨g3, 2, none⟩ (.int .i64 (fi : Int)) = wx := ⟨_, rfl⟩
  rw [hwx2] at Fx3 Px3 ⊢
  clear hwx2 Px2 Fx2
  have Fx4 : Frm (fun x => x = g3) wa (wx2.setCell ⟨g3, 3, none⟩ (.int .i64 (sn : Int))) := Fx3.self 3 _
  have Px4 : Blk (wx2.setCell ⟨g3, 3, none⟩ (.int .i64 (sn : Int))) g3 #[.int .i64 1, .slice none 0 0, .int .i64 (fi : Int), .int .i64 (sn : Int), .slice none 0 0, .bool false, .int .i64 0, .int .i64 0, .bool false, .bool false, .int .i64 0, .slice none 0 0, .int .i64 0, .slice none 0 0] 56 := Px3.set 3 _
  obtain ⟨wx3, hwx3⟩ : ∃ wx, wx2.setCell ⟨g3, 3, none⟩ (.int .i64 (sn : Int)) = wx := ⟨_, rfl⟩
  rw [hwx3] at Fx4 Px4 ⊢
  clear hwx3 Px3 Fx3
  have Fx5 : Frm (fun x => x = g3) wa (wx3.setCell ⟨g3, 4, none⟩ (.slice A5 nn c5)) := Fx4.self 4 _
  have Px5 : Blk (wx3.setCell ⟨g3, 4, none⟩ (.slice A5 nn c5)) g3 #[.int .i64 1, .slice none 0 0, .int .i64 (fi : Int), .int .i64 (sn : Int), .slice A5 nn c5, .bool false, .int .i64 0, .int .i64 0, .bool false, .bool false, .int .i64 0, .slice none 0 0, .int .i64 0, .slice none 0 0] 56 := Px4.set 4 _
  obtain ⟨wx4, hwx4⟩ : ∃ wx, wx3.setCell ⟨g3, 4, none⟩ (.slice A5 nn c5) = wx := ⟨_, rfl⟩
  rw [hwx4] at Fx5 Px5 ⊢
  clear hwx4 Px4 Fx4
  have Fx6 : Frm (fun x => x = g3) wa (wx4.setCell ⟨g3, 5, none⟩ (.bool false)) := Fx5.self 5 _
  have Px6 : Blk (wx4.setCell ⟨g3, 5, none⟩ (.bool false)) g3 #[.int .i64 1, .slice none 0 0, .int .i64 (fi : Int), .int .i64 (sn : Int), .slice A5 nn c5, .bool false, .int .i64 0, .int .i64 0, .bool false, .bool false, .int .i64 0, .slice none 0 0, .int .i64 0, .slice none 0 0] 56 := Px5.set 5 _
  obtain ⟨wx5, hwx5⟩ : ∃ wx, wx4.setCell ⟨g3, 5, none⟩ (.bool false) = wx := ⟨_, rfl⟩
  rw [hwx5] at Fx6 Px6 ⊢
  clear hwx5 Px5 Fx5
  have Fx7 : Frm (fun x => x = g3) wa (wx5.setCell ⟨g3, 6, none⟩ (.int .i64 0)) := Fx6.self 6 _
  have Px7 : Blk (wx5.setCell ⟨g3, 6, none⟩ (.int .i64 0)) g3 #[.int .i64 1, .slice none 0 0, .int .i64 (fi : Int), .int .i64 (sn : Int), .slice A5 nn c5, .bool false, .int .i64 0, .int .i64 0, .bool false, .bool false, .int .i64 0, .slice none 0 0, .int .i64 0, .slice none 0 0] 56 := Px6.set 6 _
  obtain ⟨wx6, hwx6⟩ : ∃ wx, wx5.setCell ⟨g3, 6, none⟩ (.int .i64 0) = wx := ⟨_, rfl⟩
  rw [hwx6] at Fx7 Px7 ⊢
  clear hwx6 Px6 Fx6
  have Fx8 : Frm (fun x => x = g3) wa (wx6.setCell ⟨g3, 7, none⟩ (.int .i64 0)) := Fx7.self 7 _
  have Px8 : Blk (wx6.setCell ⟨g3, 7, none⟩ (.int .i64 0)) g3 #[.int .i64 1, .slice none 0 0, .int .i64 (fi : Int), .int .i64 (sn : Int), .slice A5 nn c5, .bool false, .int .i64 0, .int .i64 0, .bool false, .bool false, .int .i64 0, .slice none 0 0, .int .i64 0, .slice none 0 0] 56 := Px7.set 7 _
  obtain ⟨wx7, hwx7⟩ : ∃ wx, wx6.setCell ⟨g3, 7, none⟩ (.int .i64 0) = wx := ⟨_, rfl⟩
  rw [hwx7] at Fx8 Px8 ⊢
  clear hwx7 Px7 Fx7
  have Fx9 : Frm (fun x => x = g3) wa (wx7.setCell ⟨g3, 8, none⟩ (.bool false)) := Fx8.self 8 _
  have Px9 : Blk (wx7.setCell ⟨g3, 8, none⟩ (.bool false)) g3 #[.int .i64 1, .slice none 0 0, .int .i64 (fi : Int), .int .i64 (sn : Int), .slice A5 nn c5, .bool false, .int .i64 0, .int .i64 0, .bool false, .bool false, .int .i64 0, .slice none 0 0, .int .i64 0, .slice none 0 0] 56 := Px8.set 8 _
  obtain ⟨wx8, hwx8⟩ : ∃ wx, wx7.setCell ⟨g3, 8, none⟩ (.bool false) = wx := ⟨_, rfl⟩
  rw [hwx8] at Fx9 Px9 ⊢
  clear hwx8 Px8 Fx8
  have Fx10 : Frm (fun x => x = g3) wa (wx8.setCell ⟨g3, 9, none⟩ (.bool false)) := Fx9.self 9 _
  have Px10 : Blk (wx8.setCell ⟨g3, 9, none⟩ (.bool false)) g3 #[.int .i64 1, .slice none 0 0, .int .i64 (fi : Int), .int .i64 (sn : Int), .slice A5 nn c5, .bool false, .int .i64 0, .int .i64 0, .bool false, .bool false, .int .i64 0, .slice none 0 0, .int .i64 0, .slice none 0 0] 56 := Px9.set 9 _
  obtain ⟨wx9, hwx9⟩ : ∃ wx, wx8.setCell ⟨g3, 9, none⟩ (.bool false) = wx := ⟨_, rfl⟩
  rw [hwx9] at Fx10 Px10 ⊢
  clear hwx9 Px9 Fx9
  have Fx11 : Frm (fun x => x = g3) wa (wx9.setCell ⟨g3, 10, none⟩ (.int .i64 0)) := Fx10.self 10 _
  have Px11 : Blk (wx9.setCell ⟨g3, 10, none⟩ (.int .i64 0)) g3 #[.int .i64 1, .slice none 0 0, .int .i64 (fi : Int), .int .i64 (sn : Int), .slice A5 nn c5, .bool false, .int .i64 0, .int .i64 0, .bool false, .bool false, .int .i64 0, .slice none 0 0, .int .i64 0, .slice none 0 0] 56 := Px10.set 10 _
  obtain ⟨wx10, hwx10⟩ : ∃ wx, wx9.setCell ⟨g3, 10, none⟩ (.int .i64 0) = wx := ⟨_, rfl⟩
  rw [hwx10] at Fx11 Px11 ⊢
  clear hwx10 Px10 Fx10
  have Fx12 : Frm (fun x => x = g3) wa (wx10.setCell ⟨g3, 11, none⟩ (.slice none 0 0)) := Fx11.self 11 _
  have Px12 : Blk (wx10.setCell ⟨g3, 11, none⟩ (.slice none 0 0)) g3 #[.int .i64 1, .slice none 0 0, .int .i64 (fi : Int), .int .i64 (sn : Int), .slice A5 nn c5, .bool false, .int .i64 0, .int .i64 0, .bool false, .bool false, .int .i64 0, .slice none 0 0, .int .i64 0, .slice none 0 0] 56 := Px11.set 11 _
  obtain ⟨wx11, hwx11⟩ : ∃ wx, wx10.setCell ⟨g3, 11, none⟩ (.slice none 0 0) = wx := ⟨_, rfl⟩
  rw [hwx11] at Fx12 Px12 ⊢
  clear hwx11 Px11 Fx11
  have Fx13 : Frm (fun x => x = g3) wa (wx11.setCell ⟨g3, 12, none⟩ (.int .i64 0)) := Fx12.self 12 _
  have Px13 : Blk (wx11.setCell ⟨g3, 12, none⟩ (.int .i64 0)) g3 #[.int .i64 1, .slice none 0 0, .int .i64 (fi : Int), .int .i64 (sn : Int), .slice A5 nn c5, .bool false, .int .i64 0, .int .i64 0, .bool false, .bool false, .int .i64 0, .slice none 0 0, .int .i64 0, .slice none 0 0] 56 := Px12.set 12 _
  obtain ⟨wx12, hwx12⟩ : ∃ wx, wx11.setCell ⟨g3, 12, none⟩ (.int .i64 0) = wx := ⟨_, rfl⟩
  rw [hwx12] at Fx13 Px13 ⊢
  clear hwx12 Px12 Fx12
  have Fx14 : Frm (fun x => x = g3) wa (wx12.setCell ⟨g3, 13, none⟩ (.slice none 0 0)) := Fx13.self 13 _
  have Px14 : Blk (wx12.setCell ⟨g3, 13, none⟩ (.slice none 0 0)) g3 #[.int .i64 1, .slice none 0 0, .int .i64 (fi : Int), .int .i64 (sn : Int), .slice A5 nn c5, .bool false, .int .i64 0, .int .i64 0, .bool false, .bool false, .int .i64 0, .slice none 0 0, .int .i64 0, .slice none 0 0] 56 := Px13.set 13 _
  obtain ⟨wx13, hwx13⟩ : ∃ wx, wx12.setCell ⟨g3, 13, none⟩ (.slice none 0 0) = wx := ⟨_, rfl⟩
  rw [hwx13] at Fx14 Px14 ⊢
  clear hwx13 Px13 Fx13
  refine jump_ret ?_
  refine bodyPost_ret (fn := Try.f13) (ret_cell_tmp (by rfl) _ _ g3 56 _ _ rfl Px14 Try.underlying56 rfl size56) rfl ?_
  have nt : ∀ t, t ≠ 56 → ∀ x cs, Blk w5 x cs t → ¬ (x = g7) := fun t ht x cs hx e => by subst e; exact Blk.ne hx H5.out.2.1 ht rfl
  have nt2 : ∀ t, t ≠ 56 → ∀ x cs, Blk wa x cs t → ¬ (x = g3) := fun t ht x cs hx e => by subst e; exact Blk.ne hx Pa ht rfl
  exact ⟨_, rfl, ((H5.out.2.2.1.lower (by have := H4.out.1.size; simpa using this)).frm Fa (nt 24 (by decide)) (nt 5 (by decide))).frm Fx14 (nt2 24 (by decide)) (nt2 5 (by decide)), (H5.out.1.then Fa (fun x hx => .inr (by omega))).then Fx14 (fun x hx => .inr (by omega))⟩
end Go.Proofs.Ytccaaldfccgncaa.A
