/- isUM. -/
import Derived.Test.YtccaaldfccgncaaPW
import Derived.Deep.RegionLawGrows
namespace Go.Proofs.Ytccaaldfccgncaa.A
open Go.RowKit Go.Proofs.Ytccaaldfccgncaa.K
set_option linter.unusedVariables false
set_option linter.unusedSimpArgs false
set_option maxRecDepth 100000 in
set_option maxHeartbeats 4000000 in
theorem is_um5 (w : World) : Calls Try.prog 18 #[.agg #[.int .i64 1, .int .i64 5, .int .i64 16, .int .i64 4, .int .i64 0, .int .i64 0, .int .i64 0, .int .i64 0, .int .i64 0, .int .i64 5000]] w fun e w' => e = .returned (.bool true) ∧ Frm No w w' := by
  have F0 := (Frm.refl No w).alloc (.cells #[.int .i64 1, .int .i64 5, .int .i64 16, .int .i64 4, .int .i64 0, .int .i64 0, .int .i64 0, .int .i64 0, .int .i64 0, .int .i64 5000] 26)
  have B0 := Blk.new w #[.int .i64 1, .int .i64 5, .int .i64 16, .int .i64 4, .int .i64 0, .int .i64 0, .int .i64 0, .int .i64 0, .int .i64 0, .int .i64 5000] 26
  obtain ⟨w0, hw0⟩ : ∃ w0, w.alloc (.cells #[.int .i64 1, .int .i64 5, .int .i64 16, .int .i64 4, .int .i64 0, .int .i64 0, .int .i64 0, .int .i64 0, .int .i64 0, .int .i64 5000] 26) = w0 := ⟨_, rfl⟩
  obtain ⟨g, hg⟩ : ∃ g, w.heap.size = g := ⟨_, rfl⟩
  rw [hw0] at F0 B0
  rw [hg] at B0
  have F1 := F0.alloc (.cells #[.int .i64 1, .int .i64 5, .int .i64 16, .int .i64 4, .int .i64 0, .int .i64 0, .int .i64 0, .int .i64 0, .int .i64 0, .int .i64 5000] 26)
  have B1 := Blk.new w0 #[.int .i64 1, .int .i64 5, .int .i64 16, .int .i64 4, .int .i64 0, .int .i64 0, .int .i64 0, .int .i64 0, .int .i64 0, .int .i64 5000] 26
  have B01 := B0.alloc (.cells #[.int .i64 1, .int .i64 5, .int .i64 16, .int .i64 4, .int .i64 0, .int .i64 0, .int .i64 0, .int .i64 0, .int .i64 0, .int .i64 5000] 26)
  obtain ⟨w1, hw1⟩ : ∃ w1, w0.alloc (.cells #[.int .i64 1, .int .i64 5, .int .i64 16, .int .i64 4, .int .i64 0, .int .i64 0, .int .i64 0, .int .i64 0, .int .i64 0, .int .i64 5000] 26) = w1 := ⟨_, rfl⟩
  obtain ⟨g3, hg3⟩ : ∃ g3, w0.heap.size = g3 := ⟨_, rfl⟩
  rw [hw1] at F1 B1 B01
  rw [hg3] at B1
  have y0 : w0.cell? ⟨g, 0, none⟩ = some (.int .i64 1) := B0.cell 0
  have y1 : w0.cell? ⟨g, 1, none⟩ = some (.int .i64 5) := B0.cell 1
  have y2 : w0.cell? ⟨g, 2, none⟩ = some (.int .i64 16) := B0.cell 2
  have y3 : w0.cell? ⟨g, 3, none⟩ = some (.int .i64 4) := B0.cell 3
  have y4 : w0.cell? ⟨g, 4, none⟩ = some (.int .i64 0) := B0.cell 4
  have y5 : w0.cell? ⟨g, 5, none⟩ = some (.int .i64 0) := B0.cell 5
  have y6 : w0.cell? ⟨g, 6, none⟩ = some (.int .i64 0) := B0.cell 6
  have y7 : w0.cell? ⟨g, 7, none⟩ = some (.int .i64 0) := B0.cell 7
  have y8 : w0.cell? ⟨g, 8, none⟩ = some (.int .i64 0) := B0.cell 8
  have y9 : w0.cell? ⟨g, 9, none⟩ = some (.int .i64 5000) := B0.cell 9
  have psh : ∀ W, (Op.shift BinOp.shl IntKind.i64 1 IntKind.i64 (IntKind.i64.wrap 4)).run Try.prog W = .ok (.int .i64 16) W := fun W => by kernel_rfl
  have HB1 := Lib.hid (And.intro B01 (And.intro B1 F1))
  clear F0 B0 F1 B1 B01
  have x0 : w1.cell? ⟨g, 0, none⟩ = some (.int .i64 1) := HB1.out.1.cell 0
  have x1 : w1.cell? ⟨g, 1, none⟩ = some (.int .i64 5) := HB1.out.1.cell 1
  have x2 : w1.cell? ⟨g, 2, none⟩ = some (.int .i64 16) := HB1.out.1.cell 2
  have x3 : w1.cell? ⟨g, 3, none⟩ = some (.int .i64 4) := HB1.out.1.cell 3
  have x4 : w1.cell? ⟨g, 4, none⟩ = some (.int .i64 0) := HB1.out.1.cell 4
  have x5 : w1.cell? ⟨g, 5, none⟩ = some (.int .i64 0) := HB1.out.1.cell 5
  have x6 : w1.cell? ⟨g, 6, none⟩ = some (.int .i64 0) := HB1.out.1.cell 6
  have x7 : w1.cell? ⟨g, 7, none⟩ = some (.int .i64 0) := HB1.out.1.cell 7
  have x8 : w1.cell? ⟨g, 8, none⟩ = some (.int .i64 0) := HB1.out.1.cell 8
  have x9 : w1.cell? ⟨g, 9, none⟩ = some (.int .i64 5000) := HB1.out.1.cell 9
  have x10 : w1.cell? ⟨g3, 0, none⟩ = some (.int .i64 1) := HB1.out.2.1.cell 0
  have x11 : w1.cell? ⟨g3, 1, none⟩ = some (.int .i64 5) := HB1.out.2.1.cell 1
  have x12 : w1.cell? ⟨g3, 2, none⟩ = some (.int .i64 16) := HB1.out.2.1.cell 2
  have x13 : w1.cell? ⟨g3, 3, none⟩ = some (.int .i64 4) := HB1.out.2.1.cell 3
  have x14 : w1.cell? ⟨g3, 4, none⟩ = some (.int .i64 0) := HB1.out.2.1.cell 4
  have x15 : w1.cell? ⟨g3, 5, none⟩ = some (.int .i64 0) := HB1.out.2.1.cell 5
  have x16 : w1.cell? ⟨g3, 6, none⟩ = some (.int .i64 0) := HB1.out.2.1.cell 6
  have x17 : w1.cell? ⟨g3, 7, none⟩ = some (.int .i64 0) := HB1.out.2.1.cell 7
  have x18 : w1.cell? ⟨g3, 8, none⟩ = some (.int .i64 0) := HB1.out.2.1.cell 8
  have x19 : w1.cell? ⟨g3, 9, none⟩ = some (.int .i64 5000) := HB1.out.2.1.cell 9
  go_enter Try.func18, Try.ntmps18
  go_upto_region 4 with fail
  refine wp_region_N (S := fun w' => w'.cell? ⟨g, 0, none⟩ = some (.int .i64 1) ∧ w'.cell? ⟨g, 1, none⟩ = some (.int .i64 5) ∧ w'.cell? ⟨g, 2, none⟩ = some (.int .i64 16) ∧ w'.cell? ⟨g, 3, none⟩ = some (.int .i64 4) ∧ w'.cell? ⟨g, 4, none⟩ = some (.int .i64 0) ∧ w'.cell? ⟨g, 5, none⟩ = some (.int .i64 0) ∧ w'.cell? ⟨g, 6, none⟩ = some (.int .i64 0) ∧ w'.cell? ⟨g, 7, none⟩ = some (.int .i64 0) ∧ w'.cell? ⟨g, 8, none⟩ = some (.int .i64 0) ∧ w'.cell? ⟨g, 9, none⟩ = some (.int .i64 5000) ∧ w'.cell? ⟨g3, 0, none⟩ = some (.int .i64 1) ∧ w'.cell? ⟨g3, 1, none⟩ = some (.int .i64 5) ∧ w'.cell? ⟨g3, 2, none⟩ = some (.int .i64 16) ∧ w'.cell? ⟨g3, 3, none⟩ = some (.int .i64 4) ∧ w'.cell? ⟨g3, 4, none⟩ = some (.int .i64 0) ∧ w'.cell? ⟨g3, 5, none⟩ = some (.int .i64 0) ∧ w'.cell? ⟨g3, 6, none⟩ = some (.int .i64 0) ∧ w'.cell? ⟨g3, 7, none⟩ = some (.int .i64 0) ∧ w'.cell? ⟨g3, 8, none⟩ = some (.int .i64 0) ∧ w'.cell? ⟨g3, 9, none⟩ = some (.int .i64 5000)) 99 (by kernel_rfl) ⟨x0, x1, x2, x3, x4, x5, x6, x7, x8, x9, x10, x11, x12, x13, x14, x15, x16, x17, x18, x19⟩ (fun hHeld => ?_)
  refine wpAnyN_take (i := 0) (v := ?rnv18r4_0) rfl (by kernel_rfl) (by kernel_rfl) (by kernel_rfl) (fun _ _ _ h => h) (by decide) (by kernel_rfl) (Or.inl ⟨by rfl, ?rny18r4_0⟩) (by assumption) ?rnr18r4_0
  case rny18r4_0 => (intro w hSw; (try dsimp only at hSw); go_simp; try with_reducible rfl)
  try simp only [Act.put, List.setIfInBounds_toArray, List.set_cons_zero, List.set_cons_succ, List.getElem_toArray, List.getElem_cons_zero, List.getElem_cons_succ]
  refine wpAnyN_take (i := 1) (v := ?rnv18r4_1) rfl (by kernel_rfl) (by kernel_rfl) (by kernel_rfl) (fun _ _ _ h => h) (by decide) (by kernel_rfl) (Or.inl ⟨by rfl, ?rny18r4_1⟩) (by assumption) ?rnr18r4_1
  case rny18r4_1 => (intro w hSw; (try dsimp only at hSw); go_simp; try with_reducible rfl)
  try simp only [Act.put, List.setIfInBounds_toArray, List.set_cons_zero, List.set_cons_succ, List.getElem_toArray, List.getElem_cons_zero, List.getElem_cons_succ]
  refine wpAnyN_take (i := 2) (v := ?rnv18r4_2) rfl (by kernel_rfl) (by kernel_rfl) (by kernel_rfl) (fun _ _ _ h => h) (by decide) (by kernel_rfl) (Or.inl ⟨by rfl, ?rny18r4_2⟩) (by assumption) ?rnr18r4_2
  case rny18r4_2 => (intro w hSw; (try dsimp only at hSw); go_simp; try with_reducible rfl)
  try simp only [Act.put, List.setIfInBounds_toArray, List.set_cons_zero, List.set_cons_succ, List.getElem_toArray, List.getElem_cons_zero, List.getElem_cons_succ]
  refine wpAnyN_take (i := 3) (v := ?rnv18r4_3) rfl (by kernel_rfl) (by kernel_rfl) (by kernel_rfl) (fun _ _ _ h => h) (by decide) (by kernel_rfl) (Or.inl ⟨by rfl, ?rny18r4_3⟩) (by assumption) ?rnr18r4_3
  case rny18r4_3 => (intro w hSw; (try dsimp only at hSw); go_simp; try with_reducible rfl)
  try simp only [Act.put, List.setIfInBounds_toArray, List.set_cons_zero, List.set_cons_succ, List.getElem_toArray, List.getElem_cons_zero, List.getElem_cons_succ]
  refine wpAnyN_take (i := 4) (v := ?rnv18r4_4) rfl (by kernel_rfl) (by kernel_rfl) (by kernel_rfl) (fun _ _ _ h => h) (by decide) (by kernel_rfl) (Or.inl ⟨by rfl, ?rny18r4_4⟩) (by assumption) ?rnr18r4_4
  case rny18r4_4 => (intro w hSw; (try dsimp only at hSw); go_simp; try with_reducible rfl)
  try simp only [Act.put, List.setIfInBounds_toArray, List.set_cons_zero, List.set_cons_succ, List.getElem_toArray, List.getElem_cons_zero, List.getElem_cons_succ]
  refine wpAnyN_take (i := 5) (v := ?rnv18r4_5) rfl (by kernel_rfl) (by kernel_rfl) (by kernel_rfl) (fun _ _ _ h => h) (by decide) (by kernel_rfl) (Or.inl ⟨by rfl, ?rny18r4_5⟩) (by assumption) ?rnr18r4_5
  case rny18r4_5 => (intro w hSw; (try dsimp only at hSw); go_simp; try with_reducible rfl)
  try simp only [Act.put, List.setIfInBounds_toArray, List.set_cons_zero, List.set_cons_succ, List.getElem_toArray, List.getElem_cons_zero, List.getElem_cons_succ]
  refine wpAnyN_take (i := 6) (v := ?rnv18r4_6) rfl (by kernel_rfl) (by kernel_rfl) (by kernel_rfl) (fun _ _ _ h => h) (by decide) (by kernel_rfl) (Or.inl ⟨by rfl, ?rny18r4_6⟩) (by assumption) ?rnr18r4_6
  case rny18r4_6 => (intro w hSw; (try dsimp only at hSw); go_simp; try with_reducible rfl)
  try simp only [Act.put, List.setIfInBounds_toArray, List.set_cons_zero, List.set_cons_succ, List.getElem_toArray, List.getElem_cons_zero, List.getElem_cons_succ]
  refine wpAnyN_take (i := 7) (v := ?rnv18r4_7) rfl (by kernel_rfl) (by kernel_rfl) (by kernel_rfl) (fun _ _ _ h => h) (by decide) (by kernel_rfl) (Or.inl ⟨by rfl, ?rny18r4_7⟩) (by assumption) ?rnr18r4_7
  case rny18r4_7 => (intro w hSw; (try dsimp only at hSw); go_simp; try with_reducible rfl)
  try simp only [Act.put, List.setIfInBounds_toArray, List.set_cons_zero, List.set_cons_succ, List.getElem_toArray, List.getElem_cons_zero, List.getElem_cons_succ]
  refine wpAnyN_take (i := 8) (v := ?rnv18r4_8) rfl (by kernel_rfl) (by kernel_rfl) (by kernel_rfl) (fun _ _ _ h => h) (by decide) (by kernel_rfl) (Or.inl ⟨by rfl, ?rny18r4_8⟩) (by assumption) ?rnr18r4_8
  case rny18r4_8 => (intro w hSw; (try dsimp only at hSw); go_simp; try with_reducible rfl)
  try simp only [Act.put, List.setIfInBounds_toArray, List.set_cons_zero, List.set_cons_succ, List.getElem_toArray, List.getElem_cons_zero, List.getElem_cons_succ]
  refine wpAnyN_take (i := 9) (v := ?rnv18r4_9) rfl (by kernel_rfl) (by kernel_rfl) (by kernel_rfl) (fun _ _ _ h => h) (by decide) (by kernel_rfl) (Or.inl ⟨by rfl, ?rny18r4_9⟩) (by assumption) ?rnr18r4_9
  case rny18r4_9 => (intro w hSw; (try dsimp only at hSw); go_simp; try with_reducible rfl)
  try simp only [Act.put, List.setIfInBounds_toArray, List.set_cons_zero, List.set_cons_succ, List.getElem_toArray, List.getElem_cons_zero, List.getElem_cons_succ]
  refine wpAnyN_take (i := 10) (v := ?rnv18r4_10) rfl (by kernel_rfl) (by kernel_rfl) (by kernel_rfl) (fun _ _ _ h => h) (by decide) (by kernel_rfl) (Or.inl ⟨by rfl, ?rny18r4_10⟩) (by assumption) ?rnr18r4_10
  case rny18r4_10 => (intro w hSw; (try dsimp only at hSw); go_simp; try with_reducible rfl)
  try simp only [Act.put, List.setIfInBounds_toArray, List.set_cons_zero, List.set_cons_succ, List.getElem_toArray, List.getElem_cons_zero, List.getElem_cons_succ]
  refine wpAnyN_take (i := 11) (v := ?rnv18r4_11) rfl (by kernel_rfl) (by kernel_rfl) (by kernel_rfl) (fun _ _ _ h => h) (by decide) (by kernel_rfl) (Or.inl ⟨by rfl, ?rny18r4_11⟩) (by assumption) ?rnr18r4_11
  case rny18r4_11 => (intro w hSw; (try dsimp only at hSw); go_simp; try with_reducible rfl)
  try simp only [Act.put, List.setIfInBounds_toArray, List.set_cons_zero, List.set_cons_succ, List.getElem_toArray, List.getElem_cons_zero, List.getElem_cons_succ]
  refine wpAnyN_take (i := 12) (v := ?rnv18r4_12) rfl (by kernel_rfl) (by kernel_rfl) (by kernel_rfl) (fun _ _ _ h => h) (by decide) (by kernel_rfl) (Or.inl ⟨by rfl, ?rny18r4_12⟩) (by assumption) ?rnr18r4_12
  case rny18r4_12 => (intro w hSw; (try dsimp only at hSw); go_simp; try with_reducible rfl)
  try simp only [Act.put, List.setIfInBounds_toArray, List.set_cons_zero, List.set_cons_succ, List.getElem_toArray, List.getElem_cons_zero, List.getElem_cons_succ]
  refine wpAnyN_take (i := 13) (v := ?rnv18r4_13) rfl (by kernel_rfl) (by kernel_rfl) (by kernel_rfl) (fun _ _ _ h => h) (by decide) (by kernel_rfl) (Or.inl ⟨by rfl, ?rny18r4_13⟩) (by assumption) ?rnr18r4_13
  case rny18r4_13 => (intro w hSw; (try dsimp only at hSw); go_simp; try with_reducible rfl)
  try simp only [Act.put, List.setIfInBounds_toArray, List.set_cons_zero, List.set_cons_succ, List.getElem_toArray, List.getElem_cons_zero, List.getElem_cons_succ]
  refine wpAnyN_one (i := 14) (by kernel_rfl) rfl (fun K hK => ?_)
  go_simp
  have FD := (Frm.refl No w1).drew
  have F4 := FD.alloc (.cells #[.int .i64 16, .int .i64 1, .int .i64 16, .int .i64 4, .int .i64 1, .int .i64 1000] 67)
  have B4 := Blk.new w1.drew #[.int .i64 16, .int .i64 1, .int .i64 16, .int .i64 4, .int .i64 1, .int .i64 1000] 67
  have G4 := F4.blk HB1.out.1 (fun h => h)
  have H4 := F4.blk HB1.out.2.1 (fun h => h)
  refine hK.out _ _ (fun _ => ?_) (fun hHeld => ?_)
  · exact ⟨(G4).cell 0, (G4).cell 1, (G4).cell 2, (G4).cell 3, (G4).cell 4, (G4).cell 5, (G4).cell 6, (G4).cell 7, (G4).cell 8, (G4).cell 9, (H4).cell 0, (H4).cell 1, (H4).cell 2, (H4).cell 3, (H4).cell 4, (H4).cell 5, (H4).cell 6, (H4).cell 7, (H4).cell 8, (H4).cell 9⟩
  have hHeld := hHeld (by decide)
  clear hK K
  try simp only [Act.put, List.setIfInBounds_toArray, List.set_cons_zero, List.set_cons_succ, List.getElem_toArray, List.getElem_cons_zero, List.getElem_cons_succ]
  refine wpAnyN_one (i := 15) (by kernel_rfl) rfl (fun K hK => ?_)
  go_simp
  refine (within_is _ _ 2 2 (fun i => if i = 0 then (16, 1, 16) else (4, 1, 1000)) _ B4 (by omega) (fun i hi => by rcases (show i = 0 ∨ i = 1 by omega) with rfl | rfl <;> exact ⟨B4.cell _, B4.cell _, B4.cell _⟩) (fun i hi => by rcases (show i = 0 ∨ i = 1 by omega) with rfl | rfl <;> simp)).mono ?_
  rintro e w3 ⟨rfl, F3⟩
  have F5 := F4.thenN F3
  have HF5 := Lib.hid (HB1.out.2.2.thenN F5)
  have G5 := F5.blk HB1.out.1 (fun h => h)
  have H5 := F5.blk HB1.out.2.1 (fun h => h)
  clear F4 F3 B4 G4 H4 FD F5
  go_wp2_with fail
  refine hK.out _ _ (fun _ => ?_) (fun hHeld => ?_)
  · exact ⟨(G5).cell 0, (G5).cell 1, (G5).cell 2, (G5).cell 3, (G5).cell 4, (G5).cell 5, (G5).cell 6, (G5).cell 7, (G5).cell 8, (G5).cell 9, (H5).cell 0, (H5).cell 1, (H5).cell 2, (H5).cell 3, (H5).cell 4, (H5).cell 5, (H5).cell 6, (H5).cell 7, (H5).cell 8, (H5).cell 9⟩
  have hHeld := hHeld (by decide)
  clear hK K
  try simp only [Act.put, List.setIfInBounds_toArray, List.set_cons_zero, List.set_cons_succ, List.getElem_toArray, List.getElem_cons_zero, List.getElem_cons_succ]
  refine wpAnyN_take (i := 16) (v := ?rnv18r4_16) rfl (by kernel_rfl) (by kernel_rfl) (by kernel_rfl) (fun _ _ _ h => h) (by decide) (by kernel_rfl) (Or.inl ⟨by rfl, ?rny18r4_16⟩) (by assumption) ?rnr18r4_16
  case rny18r4_16 => (intro w hSw; (try dsimp only at hSw); go_simp; try with_reducible rfl)
  try simp only [Act.put, List.setIfInBounds_toArray, List.set_cons_zero, List.set_cons_succ, List.getElem_toArray, List.getElem_cons_zero, List.getElem_cons_succ]
  refine wpAnyN_take (i := 17) (v := ?rnv18r4_17) rfl (by kernel_rfl) (by kernel_rfl) (by kernel_rfl) (fun _ _ _ h => h) (by decide) (by kernel_rfl) (Or.inl ⟨by rfl, ?rny18r4_17⟩) (by assumption) ?rnr18r4_17
  case rny18r4_17 => (intro w hSw; (try dsimp only at hSw); go_simp; try with_reducible rfl)
  try simp only [Act.put, List.setIfInBounds_toArray, List.set_cons_zero, List.set_cons_succ, List.getElem_toArray, List.getElem_cons_zero, List.getElem_cons_succ]
  refine wpAnyN_done (by kernel_rfl) ?_ _

  all_goals first | (go_wp2_with fail) | skip
  go_ret
  exact ⟨rfl, HF5.out⟩
set_option maxRecDepth 100000 in
set_option maxHeartbeats 4000000 in
theorem is_um10 (w : World) : Calls Try.prog 18 #[.agg #[.int .i64 1, .int .i64 10, .int .i64 16, .int .i64 4, .int .i64 0, .int .i64 0, .int .i64 0, .int .i64 0, .int .i64 0, .int .i64 5000]] w fun e w' => e = .returned (.bool true) ∧ Frm No w w' := by
  have F0 := (Frm.refl No w).alloc (.cells #[.int .i64 1, .int .i64 10, .int .i64 16, .int .i64 4, .int .i64 0, .int .i64 0, .int .i64 0, .int .i64 0, .int .i64 0, .int .i64 5000] 26)
  have B0 := Blk.new w #[.int .i64 1, .int .i64 10, .int .i64 16, .int .i64 4, .int .i64 0, .int .i64 0, .int .i64 0, .int .i64 0, .int .i64 0, .int .i64 5000] 26
  obtain ⟨w0, hw0⟩ : ∃ w0, w.alloc (.cells #[.int .i64 1, .int .i64 10, .int .i64 16, .int .i64 4, .int .i64 0, .int .i64 0, .int .i64 0, .int .i64 0, .int .i64 0, .int .i64 5000] 26) = w0 := ⟨_, rfl⟩
  obtain ⟨g, hg⟩ : ∃ g, w.heap.size = g := ⟨_, rfl⟩
  rw [hw0] at F0 B0
  rw [hg] at B0
  have F1 := F0.alloc (.cells #[.int .i64 1, .int .i64 10, .int .i64 16, .int .i64 4, .int .i64 0, .int .i64 0, .int .i64 0, .int .i64 0, .int .i64 0, .int .i64 5000] 26)
  have B1 := Blk.new w0 #[.int .i64 1, .int .i64 10, .int .i64 16, .int .i64 4, .int .i64 0, .int .i64 0, .int .i64 0, .int .i64 0, .int .i64 0, .int .i64 5000] 26
  have B01 := B0.alloc (.cells #[.int .i64 1, .int .i64 10, .int .i64 16, .int .i64 4, .int .i64 0, .int .i64 0, .int .i64 0, .int .i64 0, .int .i64 0, .int .i64 5000] 26)
  obtain ⟨w1, hw1⟩ : ∃ w1, w0.alloc (.cells #[.int .i64 1, .int .i64 10, .int .i64 16, .int .i64 4, .int .i64 0, .int .i64 0, .int .i64 0, .int .i64 0, .int .i64 0, .int .i64 5000] 26) = w1 := ⟨_, rfl⟩
  obtain ⟨g3, hg3⟩ : ∃ g3, w0.heap.size = g3 := ⟨_, rfl⟩
  rw [hw1] at F1 B1 B01
  rw [hg3] at B1
  have y0 : w0.cell? ⟨g, 0, none⟩ = some (.int .i64 1) := B0.cell 0
  have y1 : w0.cell? ⟨g, 1, none⟩ = some (.int .i64 10) := B0.cell 1
  have y2 : w0.cell? ⟨g, 2, none⟩ = some (.int .i64 16) := B0.cell 2
  have y3 : w0.cell? ⟨g, 3, none⟩ = some (.int .i64 4) := B0.cell 3
  have y4 : w0.cell? ⟨g, 4, none⟩ = some (.int .i64 0) := B0.cell 4
  have y5 : w0.cell? ⟨g, 5, none⟩ = some (.int .i64 0) := B0.cell 5
  have y6 : w0.cell? ⟨g, 6, none⟩ = some (.int .i64 0) := B0.cell 6
  have y7 : w0.cell? ⟨g, 7, none⟩ = some (.int .i64 0) := B0.cell 7
  have y8 : w0.cell? ⟨g, 8, none⟩ = some (.int .i64 0) := B0.cell 8
  have y9 : w0.cell? ⟨g, 9, none⟩ = some (.int .i64 5000) := B0.cell 9
  have psh : ∀ W, (Op.shift BinOp.shl IntKind.i64 1 IntKind.i64 (IntKind.i64.wrap 9)).run Try.prog W = .ok (.int .i64 512) W := fun W => by kernel_rfl
  have HB1 := Lib.hid (And.intro B01 (And.intro B1 F1))
  clear F0 B0 F1 B1 B01
  have x0 : w1.cell? ⟨g, 0, none⟩ = some (.int .i64 1) := HB1.out.1.cell 0
  have x1 : w1.cell? ⟨g, 1, none⟩ = some (.int .i64 10) := HB1.out.1.cell 1
  have x2 : w1.cell? ⟨g, 2, none⟩ = some (.int .i64 16) := HB1.out.1.cell 2
  have x3 : w1.cell? ⟨g, 3, none⟩ = some (.int .i64 4) := HB1.out.1.cell 3
  have x4 : w1.cell? ⟨g, 4, none⟩ = some (.int .i64 0) := HB1.out.1.cell 4
  have x5 : w1.cell? ⟨g, 5, none⟩ = some (.int .i64 0) := HB1.out.1.cell 5
  have x6 : w1.cell? ⟨g, 6, none⟩ = some (.int .i64 0) := HB1.out.1.cell 6
  have x7 : w1.cell? ⟨g, 7, none⟩ = some (.int .i64 0) := HB1.out.1.cell 7
  have x8 : w1.cell? ⟨g, 8, none⟩ = some (.int .i64 0) := HB1.out.1.cell 8
  have x9 : w1.cell? ⟨g, 9, none⟩ = some (.int .i64 5000) := HB1.out.1.cell 9
  have x10 : w1.cell? ⟨g3, 0, none⟩ = some (.int .i64 1) := HB1.out.2.1.cell 0
  have x11 : w1.cell? ⟨g3, 1, none⟩ = some (.int .i64 10) := HB1.out.2.1.cell 1
  have x12 : w1.cell? ⟨g3, 2, none⟩ = some (.int .i64 16) := HB1.out.2.1.cell 2
  have x13 : w1.cell? ⟨g3, 3, none⟩ = some (.int .i64 4) := HB1.out.2.1.cell 3
  have x14 : w1.cell? ⟨g3, 4, none⟩ = some (.int .i64 0) := HB1.out.2.1.cell 4
  have x15 : w1.cell? ⟨g3, 5, none⟩ = some (.int .i64 0) := HB1.out.2.1.cell 5
  have x16 : w1.cell? ⟨g3, 6, none⟩ = some (.int .i64 0) := HB1.out.2.1.cell 6
  have x17 : w1.cell? ⟨g3, 7, none⟩ = some (.int .i64 0) := HB1.out.2.1.cell 7
  have x18 : w1.cell? ⟨g3, 8, none⟩ = some (.int .i64 0) := HB1.out.2.1.cell 8
  have x19 : w1.cell? ⟨g3, 9, none⟩ = some (.int .i64 5000) := HB1.out.2.1.cell 9
  go_enter Try.func18, Try.ntmps18
  go_upto_region 4 with fail
  refine wp_region_N (S := fun w' => w'.cell? ⟨g, 0, none⟩ = some (.int .i64 1) ∧ w'.cell? ⟨g, 1, none⟩ = some (.int .i64 10) ∧ w'.cell? ⟨g, 2, none⟩ = some (.int .i64 16) ∧ w'.cell? ⟨g, 3, none⟩ = some (.int .i64 4) ∧ w'.cell? ⟨g, 4, none⟩ = some (.int .i64 0) ∧ w'.cell? ⟨g, 5, none⟩ = some (.int .i64 0) ∧ w'.cell? ⟨g, 6, none⟩ = some (.int .i64 0) ∧ w'.cell? ⟨g, 7, none⟩ = some (.int .i64 0) ∧ w'.cell? ⟨g, 8, none⟩ = some (.int .i64 0) ∧ w'.cell? ⟨g, 9, none⟩ = some (.int .i64 5000) ∧ w'.cell? ⟨g3, 0, none⟩ = some (.int .i64 1) ∧ w'.cell? ⟨g3, 1, none⟩ = some (.int .i64 10) ∧ w'.cell? ⟨g3, 2, none⟩ = some (.int .i64 16) ∧ w'.cell? ⟨g3, 3, none⟩ = some (.int .i64 4) ∧ w'.cell? ⟨g3, 4, none⟩ = some (.int .i64 0) ∧ w'.cell? ⟨g3, 5, none⟩ = some (.int .i64 0) ∧ w'.cell? ⟨g3, 6, none⟩ = some (.int .i64 0) ∧ w'.cell? ⟨g3, 7, none⟩ = some (.int .i64 0) ∧ w'.cell? ⟨g3, 8, none⟩ = some (.int .i64 0) ∧ w'.cell? ⟨g3, 9, none⟩ = some (.int .i64 5000)) 99 (by kernel_rfl) ⟨x0, x1, x2, x3, x4, x5, x6, x7, x8, x9, x10, x11, x12, x13, x14, x15, x16, x17, x18, x19⟩ (fun hHeld => ?_)
  refine wpAnyN_take (i := 0) (v := ?rnv18r4_0) rfl (by kernel_rfl) (by kernel_rfl) (by kernel_rfl) (fun _ _ _ h => h) (by decide) (by kernel_rfl) (Or.inl ⟨by rfl, ?rny18r4_0⟩) (by assumption) ?rnr18r4_0
  case rny18r4_0 => (intro w hSw; (try dsimp only at hSw); go_simp; try with_reducible rfl)
  try simp only [Act.put, List.setIfInBounds_toArray, List.set_cons_zero, List.set_cons_succ, List.getElem_toArray, List.getElem_cons_zero, List.getElem_cons_succ]
  refine wpAnyN_take (i := 1) (v := ?rnv18r4_1) rfl (by kernel_rfl) (by kernel_rfl) (by kernel_rfl) (fun _ _ _ h => h) (by decide) (by kernel_rfl) (Or.inl ⟨by rfl, ?rny18r4_1⟩) (by assumption) ?rnr18r4_1
  case rny18r4_1 => (intro w hSw; (try dsimp only at hSw); go_simp; try with_reducible rfl)
  try simp only [Act.put, List.setIfInBounds_toArray, List.set_cons_zero, List.set_cons_succ, List.getElem_toArray, List.getElem_cons_zero, List.getElem_cons_succ]
  refine wpAnyN_take (i := 2) (v := ?rnv18r4_2) rfl (by kernel_rfl) (by kernel_rfl) (by kernel_rfl) (fun _ _ _ h => h) (by decide) (by kernel_rfl) (Or.inl ⟨by rfl, ?rny18r4_2⟩) (by assumption) ?rnr18r4_2
  case rny18r4_2 => (intro w hSw; (try dsimp only at hSw); go_simp; try with_reducible rfl)
  try simp only [Act.put, List.setIfInBounds_toArray, List.set_cons_zero, List.set_cons_succ, List.getElem_toArray, List.getElem_cons_zero, List.getElem_cons_succ]
  refine wpAnyN_take (i := 3) (v := ?rnv18r4_3) rfl (by kernel_rfl) (by kernel_rfl) (by kernel_rfl) (fun _ _ _ h => h) (by decide) (by kernel_rfl) (Or.inl ⟨by rfl, ?rny18r4_3⟩) (by assumption) ?rnr18r4_3
  case rny18r4_3 => (intro w hSw; (try dsimp only at hSw); go_simp; try with_reducible rfl)
  try simp only [Act.put, List.setIfInBounds_toArray, List.set_cons_zero, List.set_cons_succ, List.getElem_toArray, List.getElem_cons_zero, List.getElem_cons_succ]
  refine wpAnyN_take (i := 4) (v := ?rnv18r4_4) rfl (by kernel_rfl) (by kernel_rfl) (by kernel_rfl) (fun _ _ _ h => h) (by decide) (by kernel_rfl) (Or.inl ⟨by rfl, ?rny18r4_4⟩) (by assumption) ?rnr18r4_4
  case rny18r4_4 => (intro w hSw; (try dsimp only at hSw); go_simp; try with_reducible rfl)
  try simp only [Act.put, List.setIfInBounds_toArray, List.set_cons_zero, List.set_cons_succ, List.getElem_toArray, List.getElem_cons_zero, List.getElem_cons_succ]
  refine wpAnyN_take (i := 5) (v := ?rnv18r4_5) rfl (by kernel_rfl) (by kernel_rfl) (by kernel_rfl) (fun _ _ _ h => h) (by decide) (by kernel_rfl) (Or.inl ⟨by rfl, ?rny18r4_5⟩) (by assumption) ?rnr18r4_5
  case rny18r4_5 => (intro w hSw; (try dsimp only at hSw); go_simp; try with_reducible rfl)
  try simp only [Act.put, List.setIfInBounds_toArray, List.set_cons_zero, List.set_cons_succ, List.getElem_toArray, List.getElem_cons_zero, List.getElem_cons_succ]
  refine wpAnyN_take (i := 6) (v := ?rnv18r4_6) rfl (by kernel_rfl) (by kernel_rfl) (by kernel_rfl) (fun _ _ _ h => h) (by decide) (by kernel_rfl) (Or.inl ⟨by rfl, ?rny18r4_6⟩) (by assumption) ?rnr18r4_6
  case rny18r4_6 => (intro w hSw; (try dsimp only at hSw); go_simp; try with_reducible rfl)
  try simp only [Act.put, List.setIfInBounds_toArray, List.set_cons_zero, List.set_cons_succ, List.getElem_toArray, List.getElem_cons_zero, List.getElem_cons_succ]
  refine wpAnyN_take (i := 7) (v := ?rnv18r4_7) rfl (by kernel_rfl) (by kernel_rfl) (by kernel_rfl) (fun _ _ _ h => h) (by decide) (by kernel_rfl) (Or.inl ⟨by rfl, ?rny18r4_7⟩) (by assumption) ?rnr18r4_7
  case rny18r4_7 => (intro w hSw; (try dsimp only at hSw); go_simp; try with_reducible rfl)
  try simp only [Act.put, List.setIfInBounds_toArray, List.set_cons_zero, List.set_cons_succ, List.getElem_toArray, List.getElem_cons_zero, List.getElem_cons_succ]
  refine wpAnyN_take (i := 8) (v := ?rnv18r4_8) rfl (by kernel_rfl) (by kernel_rfl) (by kernel_rfl) (fun _ _ _ h => h) (by decide) (by kernel_rfl) (Or.inl ⟨by rfl, ?rny18r4_8⟩) (by assumption) ?rnr18r4_8
  case rny18r4_8 => (intro w hSw; (try dsimp only at hSw); go_simp; try with_reducible rfl)
  try simp only [Act.put, List.setIfInBounds_toArray, List.set_cons_zero, List.set_cons_succ, List.getElem_toArray, List.getElem_cons_zero, List.getElem_cons_succ]
  refine wpAnyN_take (i := 9) (v := ?rnv18r4_9) rfl (by kernel_rfl) (by kernel_rfl) (by kernel_rfl) (fun _ _ _ h => h) (by decide) (by kernel_rfl) (Or.inl ⟨by rfl, ?rny18r4_9⟩) (by assumption) ?rnr18r4_9
  case rny18r4_9 => (intro w hSw; (try dsimp only at hSw); go_simp; try with_reducible rfl)
  try simp only [Act.put, List.setIfInBounds_toArray, List.set_cons_zero, List.set_cons_succ, List.getElem_toArray, List.getElem_cons_zero, List.getElem_cons_succ]
  refine wpAnyN_take (i := 10) (v := ?rnv18r4_10) rfl (by kernel_rfl) (by kernel_rfl) (by kernel_rfl) (fun _ _ _ h => h) (by decide) (by kernel_rfl) (Or.inl ⟨by rfl, ?rny18r4_10⟩) (by assumption) ?rnr18r4_10
  case rny18r4_10 => (intro w hSw; (try dsimp only at hSw); go_simp; try with_reducible rfl)
  try simp only [Act.put, List.setIfInBounds_toArray, List.set_cons_zero, List.set_cons_succ, List.getElem_toArray, List.getElem_cons_zero, List.getElem_cons_succ]
  refine wpAnyN_take (i := 11) (v := ?rnv18r4_11) rfl (by kernel_rfl) (by kernel_rfl) (by kernel_rfl) (fun _ _ _ h => h) (by decide) (by kernel_rfl) (Or.inl ⟨by rfl, ?rny18r4_11⟩) (by assumption) ?rnr18r4_11
  case rny18r4_11 => (intro w hSw; (try dsimp only at hSw); go_simp; try with_reducible rfl)
  try simp only [Act.put, List.setIfInBounds_toArray, List.set_cons_zero, List.set_cons_succ, List.getElem_toArray, List.getElem_cons_zero, List.getElem_cons_succ]
  refine wpAnyN_take (i := 12) (v := ?rnv18r4_12) rfl (by kernel_rfl) (by kernel_rfl) (by kernel_rfl) (fun _ _ _ h => h) (by decide) (by kernel_rfl) (Or.inl ⟨by rfl, ?rny18r4_12⟩) (by assumption) ?rnr18r4_12
  case rny18r4_12 => (intro w hSw; (try dsimp only at hSw); go_simp; try with_reducible rfl)
  try simp only [Act.put, List.setIfInBounds_toArray, List.set_cons_zero, List.set_cons_succ, List.getElem_toArray, List.getElem_cons_zero, List.getElem_cons_succ]
  refine wpAnyN_take (i := 13) (v := ?rnv18r4_13) rfl (by kernel_rfl) (by kernel_rfl) (by kernel_rfl) (fun _ _ _ h => h) (by decide) (by kernel_rfl) (Or.inl ⟨by rfl, ?rny18r4_13⟩) (by assumption) ?rnr18r4_13
  case rny18r4_13 => (intro w hSw; (try dsimp only at hSw); go_simp; try with_reducible rfl)
  try simp only [Act.put, List.setIfInBounds_toArray, List.set_cons_zero, List.set_cons_succ, List.getElem_toArray, List.getElem_cons_zero, List.getElem_cons_succ]
  refine wpAnyN_one (i := 14) (by kernel_rfl) rfl (fun K hK => ?_)
  go_simp
  have FD := (Frm.refl No w1).drew
  have F4 := FD.alloc (.cells #[.int .i64 16, .int .i64 1, .int .i64 512, .int .i64 4, .int .i64 1, .int .i64 1000] 67)
  have B4 := Blk.new w1.drew #[.int .i64 16, .int .i64 1, .int .i64 512, .int .i64 4, .int .i64 1, .int .i64 1000] 67
  have G4 := F4.blk HB1.out.1 (fun h => h)
  have H4 := F4.blk HB1.out.2.1 (fun h => h)
  refine hK.out _ _ (fun _ => ?_) (fun hHeld => ?_)
  · exact ⟨(G4).cell 0, (G4).cell 1, (G4).cell 2, (G4).cell 3, (G4).cell 4, (G4).cell 5, (G4).cell 6, (G4).cell 7, (G4).cell 8, (G4).cell 9, (H4).cell 0, (H4).cell 1, (H4).cell 2, (H4).cell 3, (H4).cell 4, (H4).cell 5, (H4).cell 6, (H4).cell 7, (H4).cell 8, (H4).cell 9⟩
  have hHeld := hHeld (by decide)
  clear hK K
  try simp only [Act.put, List.setIfInBounds_toArray, List.set_cons_zero, List.set_cons_succ, List.getElem_toArray, List.getElem_cons_zero, List.getElem_cons_succ]
  refine wpAnyN_one (i := 15) (by kernel_rfl) rfl (fun K hK => ?_)
  go_simp
  refine (within_is _ _ 2 2 (fun i => if i = 0 then (16, 1, 512) else (4, 1, 1000)) _ B4 (by omega) (fun i hi => by rcases (show i = 0 ∨ i = 1 by omega) with rfl | rfl <;> exact ⟨B4.cell _, B4.cell _, B4.cell _⟩) (fun i hi => by rcases (show i = 0 ∨ i = 1 by omega) with rfl | rfl <;> simp)).mono ?_
  rintro e w3 ⟨rfl, F3⟩
  have F5 := F4.thenN F3
  have HF5 := Lib.hid (HB1.out.2.2.thenN F5)
  have G5 := F5.blk HB1.out.1 (fun h => h)
  have H5 := F5.blk HB1.out.2.1 (fun h => h)
  clear F4 F3 B4 G4 H4 FD F5
  go_wp2_with fail
  refine hK.out _ _ (fun _ => ?_) (fun hHeld => ?_)
  · exact ⟨(G5).cell 0, (G5).cell 1, (G5).cell 2, (G5).cell 3, (G5).cell 4, (G5).cell 5, (G5).cell 6, (G5).cell 7, (G5).cell 8, (G5).cell 9, (H5).cell 0, (H5).cell 1, (H5).cell 2, (H5).cell 3, (H5).cell 4, (H5).cell 5, (H5).cell 6, (H5).cell 7, (H5).cell 8, (H5).cell 9⟩
  have hHeld := hHeld (by decide)
  clear hK K
  try simp only [Act.put, List.setIfInBounds_toArray, List.set_cons_zero, List.set_cons_succ, List.getElem_toArray, List.getElem_cons_zero, List.getElem_cons_succ]
  refine wpAnyN_take (i := 16) (v := ?rnv18r4_16) rfl (by kernel_rfl) (by kernel_rfl) (by kernel_rfl) (fun _ _ _ h => h) (by decide) (by kernel_rfl) (Or.inl ⟨by rfl, ?rny18r4_16⟩) (by assumption) ?rnr18r4_16
  case rny18r4_16 => (intro w hSw; (try dsimp only at hSw); go_simp; try with_reducible rfl)
  try simp only [Act.put, List.setIfInBounds_toArray, List.set_cons_zero, List.set_cons_succ, List.getElem_toArray, List.getElem_cons_zero, List.getElem_cons_succ]
  refine wpAnyN_take (i := 17) (v := ?rnv18r4_17) rfl (by kernel_rfl) (by kernel_rfl) (by kernel_rfl) (fun _ _ _ h => h) (by decide) (by kernel_rfl) (Or.inl ⟨by rfl, ?rny18r4_17⟩) (by assumption) ?rnr18r4_17
  case rny18r4_17 => (intro w hSw; (try dsimp only at hSw); go_simp; try with_reducible rfl)
  try simp only [Act.put, List.setIfInBounds_toArray, List.set_cons_zero, List.set_cons_succ, List.getElem_toArray, List.getElem_cons_zero, List.getElem_cons_succ]
  refine wpAnyN_done (by kernel_rfl) ?_ _

  all_goals first | (go_wp2_with fail) | skip
  go_ret
  exact ⟨rfl, HF5.out⟩
end Go.Proofs.Ytccaaldfccgncaa.A
