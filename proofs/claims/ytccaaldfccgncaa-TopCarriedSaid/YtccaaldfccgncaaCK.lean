/- Check. -/
import Derived.Test.YtccaaldfccgncaaIU
namespace Go.Proofs.Ytccaaldfccgncaa.A
open Go.RowKit Go.Proofs.Ytccaaldfccgncaa.K
set_option linter.unusedVariables false
set_option linter.unusedSimpArgs false
set_option maxRecDepth 100000 in
set_option maxHeartbeats 4000000 in
theorem check5 (w : World) : Calls Try.prog 6 #[.agg #[.int .i64 1, .int .i64 5, .int .i64 16, .int .i64 4, .int .i64 0, .int .i64 0, .int .i64 0, .int .i64 0, .int .i64 0, .int .i64 5000]] w fun e w' => e = .returned (.int .i64 0) ∧ Frm No w w' := by
  have F0 := (Frm.refl No w).alloc (.cells #[.int .i64 1, .int .i64 5, .int .i64 16, .int .i64 4, .int .i64 0, .int .i64 0, .int .i64 0, .int .i64 0, .int .i64 0, .int .i64 5000] 26)
  have B0 := Blk.new w #[.int .i64 1, .int .i64 5, .int .i64 16, .int .i64 4, .int .i64 0, .int .i64 0, .int .i64 0, .int .i64 0, .int .i64 0, .int .i64 5000] 26
  obtain ⟨w0, hw0⟩ : ∃ w0, w.alloc (.cells #[.int .i64 1, .int .i64 5, .int .i64 16, .int .i64 4, .int .i64 0, .int .i64 0, .int .i64 0, .int .i64 0, .int .i64 0, .int .i64 5000] 26) = w0 := ⟨_, rfl⟩
  obtain ⟨g, hg⟩ : ∃ g, w.heap.size = g := ⟨_, rfl⟩
  rw [hw0] at F0 B0
  rw [hg] at B0
  have hu := is_um5 w0
  have y0 : w0.cell? ⟨g, 0, none⟩ = some (.int .i64 1) := B0.cell 0
  have y1 : w0.cell? ⟨g, 1, none⟩ = some (.int .i64 5) := B0.cell 1
  have y2 : w0.cell? ⟨g, 2, none⟩ = some (.int .i64 16) := B0.cell 2
  have y3 : w0.cell? ⟨g, 3, none⟩ = some (.int .i64 4) := B0.cell 3
  have y4 : w0.cell? ⟨g, 4, none⟩ = some (.int .i64 0) := B0.cell 4
  have y5 : w0.cell? ⟨g, 5, none⟩ = some (.int .i64 0) := B0.cell 5
  have y6 : w0.cell? ⟨g, 6, none⟩ = some (.int .i64 0) := B0.cell 6
  have y7 : w0.cell? ⟨g, 7, none⟩ = some (.int .i64 0) := B0.cell 7
  have y8 : w0.cell? ⟨g, 8, none⟩ = some (.int .i64 0) := B0.cell 8
  have y9 : w0.cell? ⟨g, 9, none⟩ = some (.int .i64 5000) := B0.cell 9
  have H := Lib.hid (And.intro F0 B0)
  clear F0 B0
  go_enter Try.func6, Try.ntmps6
  go_wp2_with fail
  refine hu.mono ?_
  rintro e w1 ⟨rfl, F1⟩
  have y9b : w1.cell? ⟨g, 9, none⟩ = some (.int .i64 5000) := (F1.blk H.out.2 (fun h => h)).cell 9
  have B1 := Blk.new w1 #[.int .i64 5000, .int .i64 1, .int .i64 20000] 67
  have hwi := within_is _ w1.heap.size 1 1 (fun i => (5000, 1, 20000)) _ B1 (by omega) (fun i hi => by rcases (show i = 0 by omega) with rfl; exact ⟨B1.cell _, B1.cell _, B1.cell _⟩) (fun i hi => by simp)
  have H1 := Lib.hid (And.intro (H.out.1.thenN F1) ((H.out.1.thenN F1).alloc (.cells #[.int .i64 5000, .int .i64 1, .int .i64 20000] 67)))
  clear F1 B1 hu
  go_wp2_with fail
  refine hwi.mono ?_
  rintro e w2 ⟨rfl, F2⟩
  have H2 := Lib.hid (H1.out.2.thenN F2)
  clear F2 hwi
  go_wp2_with fail
  go_ret
  exact ⟨rfl, H2.out⟩
set_option maxRecDepth 100000 in
set_option maxHeartbeats 4000000 in
theorem check10 (w : World) : Calls Try.prog 6 #[.agg #[.int .i64 1, .int .i64 10, .int .i64 16, .int .i64 4, .int .i64 0, .int .i64 0, .int .i64 0, .int .i64 0, .int .i64 0, .int .i64 5000]] w fun e w' => e = .returned (.int .i64 0) ∧ Frm No w w' := by
  have F0 := (Frm.refl No w).alloc (.cells #[.int .i64 1, .int .i64 10, .int .i64 16, .int .i64 4, .int .i64 0, .int .i64 0, .int .i64 0, .int .i64 0, .int .i64 0, .int .i64 5000] 26)
  have B0 := Blk.new w #[.int .i64 1, .int .i64 10, .int .i64 16, .int .i64 4, .int .i64 0, .int .i64 0, .int .i64 0, .int .i64 0, .int .i64 0, .int .i64 5000] 26
  obtain ⟨w0, hw0⟩ : ∃ w0, w.alloc (.cells #[.int .i64 1, .int .i64 10, .int .i64 16, .int .i64 4, .int .i64 0, .int .i64 0, .int .i64 0, .int .i64 0, .int .i64 0, .int .i64 5000] 26) = w0 := ⟨_, rfl⟩
  obtain ⟨g, hg⟩ : ∃ g, w.heap.size = g := ⟨_, rfl⟩
  rw [hw0] at F0 B0
  rw [hg] at B0
  have hu := is_um10 w0
  have y0 : w0.cell? ⟨g, 0, none⟩ = some (.int .i64 1) := B0.cell 0
  have y1 : w0.cell? ⟨g, 1, none⟩ = some (.int .i64 10) := B0.cell 1
  have y2 : w0.cell? ⟨g, 2, none⟩ = some (.int .i64 16) := B0.cell 2
  have y3 : w0.cell? ⟨g, 3, none⟩ = some (.int .i64 4) := B0.cell 3
  have y4 : w0.cell? ⟨g, 4, none⟩ = some (.int .i64 0) := B0.cell 4
  have y5 : w0.cell? ⟨g, 5, none⟩ = some (.int .i64 0) := B0.cell 5
  have y6 : w0.cell? ⟨g, 6, none⟩ = some (.int .i64 0) := B0.cell 6
  have y7 : w0.cell? ⟨g, 7, none⟩ = some (.int .i64 0) := B0.cell 7
  have y8 : w0.cell? ⟨g, 8, none⟩ = some (.int .i64 0) := B0.cell 8
  have y9 : w0.cell? ⟨g, 9, none⟩ = some (.int .i64 5000) := B0.cell 9
  have H := Lib.hid (And.intro F0 B0)
  clear F0 B0
  go_enter Try.func6, Try.ntmps6
  go_wp2_with fail
  refine hu.mono ?_
  rintro e w1 ⟨rfl, F1⟩
  have y9b : w1.cell? ⟨g, 9, none⟩ = some (.int .i64 5000) := (F1.blk H.out.2 (fun h => h)).cell 9
  have B1 := Blk.new w1 #[.int .i64 5000, .int .i64 1, .int .i64 20000] 67
  have hwi := within_is _ w1.heap.size 1 1 (fun i => (5000, 1, 20000)) _ B1 (by omega) (fun i hi => by rcases (show i = 0 by omega) with rfl; exact ⟨B1.cell _, B1.cell _, B1.cell _⟩) (fun i hi => by simp)
  have H1 := Lib.hid (And.intro (H.out.1.thenN F1) ((H.out.1.thenN F1).alloc (.cells #[.int .i64 5000, .int .i64 1, .int .i64 20000] 67)))
  clear F1 B1 hu
  go_wp2_with fail
  refine hwi.mono ?_
  rintro e w2 ⟨rfl, F2⟩
  have H2 := Lib.hid (H1.out.2.thenN F2)
  clear F2 hwi
  go_wp2_with fail
  go_ret
  exact ⟨rfl, H2.out⟩
end Go.Proofs.Ytccaaldfccgncaa.A
