/- Check where the bits are others. -/
import Derived.Test.YtccaaldfccgncaaPC
namespace Go.Proofs.Ytccaaldfccgncaa.A
open Go.RowKit Go.Proofs.Ytccaaldfccgncaa.K
set_option linter.unusedVariables false
set_option linter.unusedSimpArgs false

set_option maxRecDepth 100000 in
set_option maxHeartbeats 4000000 in
theorem is_um_no (w : World) (b : Int) (h5 : b ≠ 5) (h10 : b ≠ 10) : Calls Try.prog 18 #[.agg #[.int .i64 1, .int .i64 b, .int .i64 16, .int .i64 4, .int .i64 0, .int .i64 0, .int .i64 0, .int .i64 0, .int .i64 0, .int .i64 5000]] w fun e w' => e = .returned (.bool false) ∧ Frm No w w' := by
  have n5 : (b == 5) = false := by rw [beq_eq_false_iff_ne]; exact h5
  have n10 : (b == 10) = false := by rw [beq_eq_false_iff_ne]; exact h10
  have m5 : (b != 5) = true := by rw [bne_iff_ne]; exact h5
  have m10 : (b != 10) = true := by rw [bne_iff_ne]; exact h10
  have F0 := (Frm.refl No w).alloc (.cells #[.int .i64 1, .int .i64 b, .int .i64 16, .int .i64 4, .int .i64 0, .int .i64 0, .int .i64 0, .int .i64 0, .int .i64 0, .int .i64 5000] 26)
  have B0 := Blk.new w #[.int .i64 1, .int .i64 b, .int .i64 16, .int .i64 4, .int .i64 0, .int .i64 0, .int .i64 0, .int .i64 0, .int .i64 0, .int .i64 5000] 26
  obtain ⟨w0, hw0⟩ : ∃ w0, w.alloc (.cells #[.int .i64 1, .int .i64 b, .int .i64 16, .int .i64 4, .int .i64 0, .int .i64 0, .int .i64 0, .int .i64 0, .int .i64 0, .int .i64 5000] 26) = w0 := ⟨_, rfl⟩
  obtain ⟨g, hg⟩ : ∃ g, w.heap.size = g := ⟨_, rfl⟩
  rw [hw0] at F0 B0
  rw [hg] at B0
  have y0 : w0.cell? ⟨g, 0, none⟩ = some (.int .i64 1) := B0.cell 0
  have y1 : w0.cell? ⟨g, 1, none⟩ = some (.int .i64 b) := B0.cell 1
  have y2 : w0.cell? ⟨g, 2, none⟩ = some (.int .i64 16) := B0.cell 2
  have y3 : w0.cell? ⟨g, 3, none⟩ = some (.int .i64 4) := B0.cell 3
  have y4 : w0.cell? ⟨g, 4, none⟩ = some (.int .i64 0) := B0.cell 4
  have y5 : w0.cell? ⟨g, 5, none⟩ = some (.int .i64 0) := B0.cell 5
  have y6 : w0.cell? ⟨g, 6, none⟩ = some (.int .i64 0) := B0.cell 6
  have y7 : w0.cell? ⟨g, 7, none⟩ = some (.int .i64 0) := B0.cell 7
  have y8 : w0.cell? ⟨g, 8, none⟩ = some (.int .i64 0) := B0.cell 8
  have y9 : w0.cell? ⟨g, 9, none⟩ = some (.int .i64 5000) := B0.cell 9
  have H := Lib.hid F0
  clear F0 B0
  go_enter Try.func18, Try.ntmps18
  go_wp2_with fail
  go_ret
  exact ⟨rfl, H.out⟩
set_option maxRecDepth 100000 in
set_option maxHeartbeats 4000000 in
theorem check_no (w : World) (b : Int) (h5 : b ≠ 5) (h10 : b ≠ 10) : Calls Try.prog 6 #[.agg #[.int .i64 1, .int .i64 b, .int .i64 16, .int .i64 4, .int .i64 0, .int .i64 0, .int .i64 0, .int .i64 0, .int .i64 0, .int .i64 5000]] w fun e w' => e = .returned (.int .i64 1) ∧ Frm No w w' := by
  have n5 : (b == 5) = false := by rw [beq_eq_false_iff_ne]; exact h5
  have n10 : (b == 10) = false := by rw [beq_eq_false_iff_ne]; exact h10
  have m5 : (b != 5) = true := by rw [bne_iff_ne]; exact h5
  have m10 : (b != 10) = true := by rw [bne_iff_ne]; exact h10
  have F0 := (Frm.refl No w).alloc (.cells #[.int .i64 1, .int .i64 b, .int .i64 16, .int .i64 4, .int .i64 0, .int .i64 0, .int .i64 0, .int .i64 0, .int .i64 0, .int .i64 5000] 26)
  have B0 := Blk.new w #[.int .i64 1, .int .i64 b, .int .i64 16, .int .i64 4, .int .i64 0, .int .i64 0, .int .i64 0, .int .i64 0, .int .i64 0, .int .i64 5000] 26
  obtain ⟨w0, hw0⟩ : ∃ w0, w.alloc (.cells #[.int .i64 1, .int .i64 b, .int .i64 16, .int .i64 4, .int .i64 0, .int .i64 0, .int .i64 0, .int .i64 0, .int .i64 0, .int .i64 5000] 26) = w0 := ⟨_, rfl⟩
  obtain ⟨g, hg⟩ : ∃ g, w.heap.size = g := ⟨_, rfl⟩
  rw [hw0] at F0 B0
  rw [hg] at B0
  have y0 : w0.cell? ⟨g, 0, none⟩ = some (.int .i64 1) := B0.cell 0
  have y1 : w0.cell? ⟨g, 1, none⟩ = some (.int .i64 b) := B0.cell 1
  have y2 : w0.cell? ⟨g, 2, none⟩ = some (.int .i64 16) := B0.cell 2
  have y3 : w0.cell? ⟨g, 3, none⟩ = some (.int .i64 4) := B0.cell 3
  have y4 : w0.cell? ⟨g, 4, none⟩ = some (.int .i64 0) := B0.cell 4
  have y5 : w0.cell? ⟨g, 5, none⟩ = some (.int .i64 0) := B0.cell 5
  have y6 : w0.cell? ⟨g, 6, none⟩ = some (.int .i64 0) := B0.cell 6
  have y7 : w0.cell? ⟨g, 7, none⟩ = some (.int .i64 0) := B0.cell 7
  have y8 : w0.cell? ⟨g, 8, none⟩ = some (.int .i64 0) := B0.cell 8
  have y9 : w0.cell? ⟨g, 9, none⟩ = some (.int .i64 5000) := B0.cell 9
  have hu := is_um_no w0 b h5 h10
  have H := Lib.hid F0
  clear F0 B0
  go_enter Try.func6, Try.ntmps6
  go_wp2_with fail
  refine hu.mono ?_
  rintro e w1 ⟨rfl, F1⟩
  have H1 := Lib.hid (H.out.thenN F1)
  clear F1 hu
  go_wp2_with fail
  go_ret
  exact ⟨rfl, H1.out⟩
end Go.Proofs.Ytccaaldfccgncaa.A
