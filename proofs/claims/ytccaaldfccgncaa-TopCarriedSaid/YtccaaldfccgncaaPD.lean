/- pdu.Write. -/
import Derived.Test.YtccaaldfccgncaaCK
namespace Go.Proofs.Ytccaaldfccgncaa.A
open Go.RowKit Go.Proofs.Ytccaaldfccgncaa.K
set_option linter.unusedVariables false
set_option linter.unusedSimpArgs false
set_option maxRecDepth 100000 in
set_option maxHeartbeats 4000000 in
theorem pd_write5 (w : World) (fi sn : Nat) (A : Option Addr) (n c B : Nat) (O : List (List Nat)) (z0 z1 z2 z3 z4 z5 z6 z7 z8 : Value) (h : RowF w B (.slice A n c) O) (hn : O.length = n) (hok : FldOk O) (ht : tot O ≤ 3000) (hfi : fi ≤ 3) (hsn : sn ≤ 31) (h256 : ∀ f ∈ O, ∀ x ∈ f, x < 256) :
    Calls Try.prog 12 #[.agg #[.int .i64 1, .int .i64 5, .int .i64 16, .int .i64 4, .int .i64 0, .int .i64 0, .int .i64 0, .int .i64 0, .int .i64 0, .int .i64 5000], .agg #[.int .i64 1, .slice none 0 0, .int .i64 fi, .int .i64 sn, .slice A n c, z0, z1, z2, z3, z4, z5, z6, z7, z8]] w fun e w' => ∃ v, e = .returned (.tuple #[v, .int .i64 0]) ∧ RowB w' w.heap.size v (wireOf 5 fi sn O) ∧ Frm No w w' := by
  have F0 := (Frm.refl No w).alloc (.cells #[.int .i64 1, .int .i64 5, .int .i64 16, .int .i64 4, .int .i64 0, .int .i64 0, .int .i64 0, .int .i64 0, .int .i64 0, .int .i64 5000] 26)
  have B0 := Blk.new w #[.int .i64 1, .int .i64 5, .int .i64 16, .int .i64 4, .int .i64 0, .int .i64 0, .int .i64 0, .int .i64 0, .int .i64 0, .int .i64 5000] 26
  obtain ⟨w0, hw0⟩ : ∃ w0, w.alloc (.cells #[.int .i64 1, .int .i64 5, .int .i64 16, .int .i64 4, .int .i64 0, .int .i64 0, .int .i64 0, .int .i64 0, .int .i64 0, .int .i64 5000] 26) = w0 := ⟨_, rfl⟩
  obtain ⟨g, hg⟩ : ∃ g, w.heap.size = g := ⟨_, rfl⟩
  rw [hw0] at F0 B0
  rw [hg] at B0
  have F1 := F0.alloc (.cells #[.int .i64 1, .slice none 0 0, .int .i64 fi, .int .i64 sn, .slice A n c, z0, z1, z2, z3, z4, z5, z6, z7, z8] 56)
  have B1 := Blk.new w0 #[.int .i64 1, .slice none 0 0, .int .i64 fi, .int .i64 sn, .slice A n c, z0, z1, z2, z3, z4, z5, z6, z7, z8] 56
  have B01 := B0.alloc (.cells #[.int .i64 1, .slice none 0 0, .int .i64 fi, .int .i64 sn, .slice A n c, z0, z1, z2, z3, z4, z5, z6, z7, z8] 56)
  obtain ⟨w1, hw1⟩ : ∃ w1, w0.alloc (.cells #[.int .i64 1, .slice none 0 0, .int .i64 fi, .int .i64 sn, .slice A n c, z0, z1, z2, z3, z4, z5, z6, z7, z8] 56) = w1 := ⟨_, rfl⟩
  obtain ⟨g3, hg3⟩ : ∃ g3, w0.heap.size = g3 := ⟨_, rfl⟩
  rw [hw1] at F1 B1 B01
  rw [hg3] at B1
  have hck := check5 w1
  have y0 : w1.cell? ⟨g, 0, none⟩ = some (.int .i64 1) := B01.cell 0
  have y1 : w1.cell? ⟨g, 1, none⟩ = some (.int .i64 5) := B01.cell 1
  have y2 : w1.cell? ⟨g, 2, none⟩ = some (.int .i64 16) := B01.cell 2
  have y3 : w1.cell? ⟨g, 3, none⟩ = some (.int .i64 4) := B01.cell 3
  have y4 : w1.cell? ⟨g, 4, none⟩ = some (.int .i64 0) := B01.cell 4
  have y5 : w1.cell? ⟨g, 5, none⟩ = some (.int .i64 0) := B01.cell 5
  have y6 : w1.cell? ⟨g, 6, none⟩ = some (.int .i64 0) := B01.cell 6
  have y7 : w1.cell? ⟨g, 7, none⟩ = some (.int .i64 0) := B01.cell 7
  have y8 : w1.cell? ⟨g, 8, none⟩ = some (.int .i64 0) := B01.cell 8
  have y9 : w1.cell? ⟨g, 9, none⟩ = some (.int .i64 5000) := B01.cell 9
  have H := Lib.hid (And.intro F1 (And.intro B01 (And.intro B1 (And.intro h (And.intro hn (And.intro hok (And.intro ht h256)))))))
  clear F0 B0 F1 B1 B01 h hn hok ht h256
  go_enter Try.func12, Try.ntmps12
  go_wp2_with fail
  refine hck.mono ?_
  rintro e w2 ⟨rfl, F2⟩
  have b2 := F2.blk H.out.2.1 (fun h => h)
  have u2 := F2.blk H.out.2.2.1 (fun h => h)
  have v0 : w2.cell? ⟨g, 0, none⟩ = some (.int .i64 1) := b2.cell 0
  have v1 : w2.cell? ⟨g, 1, none⟩ = some (.int .i64 5) := b2.cell 1
  have u0 : w2.cell? ⟨g3, 0, none⟩ = some (.int .i64 1) := u2.cell 0
  have x2 : w2.cell? ⟨g3, 2, none⟩ = some (.int .i64 fi) := u2.cell 2
  have x3 : w2.cell? ⟨g3, 3, none⟩ = some (.int .i64 sn) := u2.cell 3
  have x4 : w2.cell? ⟨g3, 4, none⟩ = some (.slice A n c) := u2.cell 4
  have F02 := H.out.1.thenN F2
  have hwr := um_write w2 fi sn A n c 5 B O (by omega) (H.out.2.2.2.1.frmN F02) H.out.2.2.2.2.1 H.out.2.2.2.2.2.1 H.out.2.2.2.2.2.2.1 hfi hsn H.out.2.2.2.2.2.2.2
  have H2 := Lib.hid F02
  clear F2 b2 u2 F02 hck
  go_wp2_with fail
  refine hwr.mono ?_
  rintro e w3 ⟨v, rfl, R3, F3⟩
  have H3 := Lib.hid (And.intro (R3.lower H2.out.size) (H2.out.thenN F3))
  clear R3 F3
  go_wp2_with fail
  go_ret2
  exact ⟨_, rfl, H3.out.1, H3.out.2⟩
set_option maxRecDepth 100000 in
set_option maxHeartbeats 4000000 in
theorem pd_write10 (w : World) (fi sn : Nat) (A : Option Addr) (n c B : Nat) (O : List (List Nat)) (z0 z1 z2 z3 z4 z5 z6 z7 z8 : Value) (h : RowF w B (.slice A n c) O) (hn : O.length = n) (hok : FldOk O) (ht : tot O ≤ 3000) (hfi : fi ≤ 3) (hsn : sn ≤ 31) (h256 : ∀ f ∈ O, ∀ x ∈ f, x < 256) :
    Calls Try.prog 12 #[.agg #[.int .i64 1, .int .i64 10, .int .i64 16, .int .i64 4, .int .i64 0, .int .i64 0, .int .i64 0, .int .i64 0, .int .i64 0, .int .i64 5000], .agg #[.int .i64 1, .slice none 0 0, .int .i64 fi, .int .i64 sn, .slice A n c, z0, z1, z2, z3, z4, z5, z6, z7, z8]] w fun e w' => ∃ v, e = .returned (.tuple #[v, .int .i64 0]) ∧ RowB w' w.heap.size v (wireOf 10 fi sn O) ∧ Frm No w w' := by
  have F0 := (Frm.refl No w).alloc (.cells #[.int .i64 1, .int .i64 10, .int .i64 16, .int .i64 4, .int .i64 0, .int .i64 0, .int .i64 0, .int .i64 0, .int .i64 0, .int .i64 5000] 26)
  have B0 := Blk.new w #[.int .i64 1, .int .i64 10, .int .i64 16, .int .i64 4, .int .i64 0, .int .i64 0, .int .i64 0, .int .i64 0, .int .i64 0, .int .i64 5000] 26
  obtain ⟨w0, hw0⟩ : ∃ w0, w.alloc (.cells #[.int .i64 1, .int .i64 10, .int .i64 16, .int .i64 4, .int .i64 0, .int .i64 0, .int .i64 0, .int .i64 0, .int .i64 0, .int .i64 5000] 26) = w0 := ⟨_, rfl⟩
  obtain ⟨g, hg⟩ : ∃ g, w.heap.size = g := ⟨_, rfl⟩
  rw [hw0] at F0 B0
  rw [hg] at B0
  have F1 := F0.alloc (.cells #[.int .i64 1, .slice none 0 0, .int .i64 fi, .int .i64 sn, .slice A n c, z0, z1, z2, z3, z4, z5, z6, z7, z8] 56)
  have B1 := Blk.new w0 #[.int .i64 1, .slice none 0 0, .int .i64 fi, .int .i64 sn, .slice A n c, z0, z1, z2, z3, z4, z5, z6, z7, z8] 56
  have B01 := B0.alloc (.cells #[.int .i64 1, .slice none 0 0, .int .i64 fi, .int .i64 sn, .slice A n c, z0, z1, z2, z3, z4, z5, z6, z7, z8] 56)
  obtain ⟨w1, hw1⟩ : ∃ w1, w0.alloc (.cells #[.int .i64 1, .slice none 0 0, .int .i64 fi, .int .i64 sn, .slice A n c, z0, z1, z2, z3, z4, z5, z6, z7, z8] 56) = w1 := ⟨_, rfl⟩
  obtain ⟨g3, hg3⟩ : ∃ g3, w0.heap.size = g3 := ⟨_, rfl⟩
  rw [hw1] at F1 B1 B01
  rw [hg3] at B1
  have hck := check10 w1
  have y0 : w1.cell? ⟨g, 0, none⟩ = some (.int .i64 1) := B01.cell 0
  have y1 : w1.cell? ⟨g, 1, none⟩ = some (.int .i64 10) := B01.cell 1
  have y2 : w1.cell? ⟨g, 2, none⟩ = some (.int .i64 16) := B01.cell 2
  have y3 : w1.cell? ⟨g, 3, none⟩ = some (.int .i64 4) := B01.cell 3
  have y4 : w1.cell? ⟨g, 4, none⟩ = some (.int .i64 0) := B01.cell 4
  have y5 : w1.cell? ⟨g, 5, none⟩ = some (.int .i64 0) := B01.cell 5
  have y6 : w1.cell? ⟨g, 6, none⟩ = some (.int .i64 0) := B01.cell 6
  have y7 : w1.cell? ⟨g, 7, none⟩ = some (.int .i64 0) := B01.cell 7
  have y8 : w1.cell? ⟨g, 8, none⟩ = some (.int .i64 0) := B01.cell 8
  have y9 : w1.cell? ⟨g, 9, none⟩ = some (.int .i64 5000) := B01.cell 9
  have H := Lib.hid (And.intro F1 (And.intro B01 (And.intro B1 (And.intro h (And.intro hn (And.intro hok (And.intro ht h256)))))))
  clear F0 B0 F1 B1 B01 h hn hok ht h256
  go_enter Try.func12, Try.ntmps12
  go_wp2_with fail
  refine hck.mono ?_
  rintro e w2 ⟨rfl, F2⟩
  have b2 := F2.blk H.out.2.1 (fun h => h)
  have u2 := F2.blk H.out.2.2.1 (fun h => h)
  have v0 : w2.cell? ⟨g, 0, none⟩ = some (.int .i64 1) := b2.cell 0
  have v1 : w2.cell? ⟨g, 1, none⟩ = some (.int .i64 10) := b2.cell 1
  have u0 : w2.cell? ⟨g3, 0, none⟩ = some (.int .i64 1) := u2.cell 0
  have x2 : w2.cell? ⟨g3, 2, none⟩ = some (.int .i64 fi) := u2.cell 2
  have x3 : w2.cell? ⟨g3, 3, none⟩ = some (.int .i64 sn) := u2.cell 3
  have x4 : w2.cell? ⟨g3, 4, none⟩ = some (.slice A n c) := u2.cell 4
  have F02 := H.out.1.thenN F2
  have hwr := um_write w2 fi sn A n c 10 B O (by omega) (H.out.2.2.2.1.frmN F02) H.out.2.2.2.2.1 H.out.2.2.2.2.2.1 H.out.2.2.2.2.2.2.1 hfi hsn H.out.2.2.2.2.2.2.2
  have H2 := Lib.hid F02
  clear F2 b2 u2 F02 hck
  go_wp2_with fail
  refine hwr.mono ?_
  rintro e w3 ⟨v, rfl, R3, F3⟩
  have H3 := Lib.hid (And.intro (R3.lower H2.out.size) (H2.out.thenN F3))
  clear R3 F3
  go_wp2_with fail
  go_ret2
  exact ⟨_, rfl, H3.out.1, H3.out.2⟩
end Go.Proofs.Ytccaaldfccgncaa.A
