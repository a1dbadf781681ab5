/- TopCarried: the walk. -/
import Derived.Test.YtccaaldfccgncaaMN
import Derived.Test.YtccaaldfccgncaaO
namespace Go.Proofs.Ytccaaldfccgncaa.A
open Go.RowKit Go.Proofs.Ytccaaldfccgncaa.K
set_option linter.unusedVariables false
set_option linter.unusedSimpArgs false

theorem LS.pl {w wr : World} {g9 : Nat} {b : Int} {gq : Nat} {v : Value} {F : List Fl} {T : List Tx} {ls : Int} (h : LS w wr g9 b gq v F T ls 20) : PL F T 0 0 := by
  refine ⟨⟨by have := h.len; omega, h.ok, fun t R e => ?_⟩, fun _ => rfl, by rw [List.drop_zero]; exact h.e.symm, Nat.zero_le _, by rw [h.flen]; exact h.len⟩
  have := h.ok t (by rw [e]; exact List.mem_cons_self ..)
  omega
theorem tl_pos {T : List Tx} {tk : Nat} (h : Waits T tk) : T = [] ∨ 0 < ((tl T : Nat) : Int) - (tk : Nat) := by
  cases T with
  | nil => exact .inl rfl
  | cons t R =>
    right
    have h1 := h.2.2 t R rfl
    have h2 : tl (t :: R) = t.bs.length + tl R := by
      rw [show t :: R = [t] ++ R from rfl, tl_app, tl_one]
    omega
theorem PL.done {F : List Fl} {T : List Tx} {tk n : Nat} (p : PL F T tk n) (h : T = []) : n = F.length := by
  have h1 := congrArg List.length p.e
  rw [h, List.length_drop, List.length_map, List.map_nil, List.length_nil] at h1
  have := p.n1
  omega
theorem ret_true {R : Ending → World → Prop} {a : Act} {w : World} (hd : a.defers = []) (h8 : a.tmps.getD 8 undef = .bool true) (h : R (.returned (.bool true)) w) : bodyPost Try.prog Try.f3 R .ret a w :=
  bodyPost_ret (fn := Try.f3) (by rw [results_tmp (t := 8) (by rfl), h8]) hd h
set_option maxRecDepth 100000 in
theorem fr3z {a : Act} {x2 x3 x9 x10 x12 : Value} (hs : a.tmps.size = 286) (hd : a.defers = []) (h2 : a.tmps.getD 2 undef = x2) (h3 : a.tmps.getD 3 undef = x3) (h9 : a.tmps.getD 9 undef = x9) (h10 : a.tmps.getD 10 undef = x10) (h12 : a.tmps.getD 12 undef = x12) : ∃ U : Nat → Value, a = ⟨#[U 0, U 1, x2, x3, U 4, U 5, U 6, U 7, U 8, x9, x10, U 11, x12, U 13, U 14, U 15, U 16, U 17, U 18, U 19, U 20, U 21, U 22, U 23, U 24, U 25, U 26, U 27, U 28, U 29, U 30, U 31, U 32, U 33, U 34, U 35, U 36, U 37, U 38, U 39, U 40, U 41, U 42, U 43, U 44, U 45, U 46, U 47, U 48, U 49, U 50, U 51, U 52, U 53, U 54, U 55, U 56, U 57, U 58, U 59, U 60, U 61, U 62, U 63, U 64, U 65, U 66, U 67, U 68, U 69, U 70, U 71, U 72, U 73, U 74, U 75, U 76, U 77, U 78, U 79, U 80, U 81, U 82, U 83, U 84, U 85, U 86, U 87, U 88, U 89, U 90, U 91, U 92, U 93, U 94, U 95, U 96, U 97, U 98, U 99, U 100, U 101, U 102, U 103, U 104, U 105, U 106, U 107, U 108, U 109, U 110, U 111, U 112, U 113, U 114, U 115, U 116, U 117, U 118, U 119, U 120, U 121, U 122, U 123, U 124, U 125, U 126, U 127, U 128, U 129, U 130, U 131, U 132, U 133, U 134, U 135, U 136, U 137, U 138, U 139, U 140, U 141, U 142, U 143, U 144, U 145, U 146, U 147, U 148, U 149, U 150, U 151, U 152, U 153, U 154, U 155, U 156, U 157, U 158, U 159, U 160, U 161, U 162, U 163, U 164, U 165, U 166, U 167, U 168, U 169, U 170, U 171, U 172, U 173, U 174, U 175, U 176, U 177, U 178, U 179, U 180, U 181, U 182, U 183, U 184, U 185, U 186, U 187, U 188, U 189, U 190, U 191, U 192, U 193, U 194, U 195, U 196, U 197, U 198, U 199, U 200, U 201, U 202, U 203, U 204, U 205, U 206, U 207, U 208, U 209, U 210, U 211, U 212, U 213, U 214, U 215, U 216, U 217, U 218, U 219, U 220, U 221, U 222, U 223, U 224, U 225, U 226, U 227, U 228, U 229, U 230, U 231, U 232, U 233, U 234, U 235, U 236, U 237, U 238, U 239, U 240, U 241, U 242, U 243, U 244, U 245, U 246, U 247, U 248, U 249, U 250, U 251, U 252, U 253, U 254, U 255, U 256, U 257, U 258, U 259, U 260, U 261, U 262, U 263, U 264, U 265, U 266, U 267, U 268, U 269, U 270, U 271, U 272, U 273, U 274, U 275, U 276, U 277, U 278, U 279, U 280, U 281, U 282, U 283, U 284, U 285], []⟩ := by
  have e := act_frame a 286 hs hd
  obtain ⟨f, hf⟩ : ∃ f : Nat → Value, (fun i => a.tmps.getD i undef) = f := ⟨_, rfl⟩
  rw [hf, show ((List.range 286).map f).toArray = #[f 0, f 1, f 2, f 3, f 4, f 5, f 6, f 7, f 8, f 9, f 10, f 11, f 12, f 13, f 14, f 15, f 16, f 17, f 18, f 19, f 20, f 21, f 22, f 23, f 24, f 25, f 26, f 27, f 28, f 29, f 30, f 31, f 32, f 33, f 34, f 35, f 36, f 37, f 38, f 39, f 40, f 41, f 42, f 43, f 44, f 45, f 46, f 47, f 48, f 49, f 50, f 51, f 52, f 53, f 54, f 55, f 56, f 57, f 58, f 59, f 60, f 61, f 62, f 63, f 64, f 65, f 66, f 67, f 68, f 69, f 70, f 71, f 72, f 73, f 74, f 75, f 76, f 77, f 78, f 79, f 80, f 81, f 82, f 83, f 84, f 85, f 86, f 87, f 88, f 89, f 90, f 91, f 92, f 93, f 94, f 95, f 96, f 97, f 98, f 99, f 100, f 101, f 102, f 103, f 104, f 105, f 106, f 107, f 108, f 109, f 110, f 111, f 112, f 113, f 114, f 115, f 116, f 117, f 118, f 119, f 120, f 121, f 122, f 123, f 124, f 125, f 126, f 127, f 128, f 129, f 130, f 131, f 132, f 133, f 134, f 135, f 136, f 137, f 138, f 139, f 140, f 141, f 142, f 143, f 144, f 145, f 146, f 147, f 148, f 149, f 150, f 151, f 152, f 153, f 154, f 155, f 156, f 157, f 158, f 159, f 160, f 161, f 162, f 163, f 164, f 165, f 166, f 167, f 168, f 169, f 170, f 171, f 172, f 173, f 174, f 175, f 176, f 177, f 178, f 179, f 180, f 181, f 182, f 183, f 184, f 185, f 186, f 187, f 188, f 189, f 190, f 191, f 192, f 193, f 194, f 195, f 196, f 197, f 198, f 199, f 200, f 201, f 202, f 203, f 204, f 205, f 206, f 207, f 208, f 209, f 210, f 211, f 212, f 213, f 214, f 215, f 216, f 217, f 218, f 219, f 220, f 221, f 222, f 223, f 224, f 225, f 226, f 227, f 228, f 229, f 230, f 231, f 232, f 233, f 234, f 235, f 236, f 237, f 238, f 239, f 240, f 241, f 242, f 243, f 244, f 245, f 246, f 247, f 248, f 249, f 250, f 251, f 252, f 253, f 254, f 255, f 256, f 257, f 258, f 259, f 260, f 261, f 262, f 263, f 264, f 265, f 266, f 267, f 268, f 269, f 270, f 271, f 272, f 273, f 274, f 275, f 276, f 277, f 278, f 279, f 280, f 281, f 282, f 283, f 284, f 285] from rfl] at e
  refine ⟨f, ?_⟩
  have hi : ∀ i, f i = a.tmps.getD i undef := fun i => by rw [← hf]
  rw [e]
  simp only [show f 2 = x2 from (hi 2).trans h2, show f 3 = x3 from (hi 3).trans h3, show f 9 = x9 from (hi 9).trans h9, show f 10 = x10 from (hi 10).trans h10, show f 12 = x12 from (hi 12).trans h12]

set_option maxRecDepth 100000 in
theorem fr3y {a : Act} {x10 x12 x16 x18 : Value} (hs : a.tmps.size = 286) (hd : a.defers = []) (h10 : a.tmps.getD 10 undef = x10) (h12 : a.tmps.getD 12 undef = x12) (h16 : a.tmps.getD 16 undef = x16) (h18 : a.tmps.getD 18 undef = x18) : ∃ U : Nat → Value, a = ⟨#[U 0, U 1, U 2, U 3, U 4, U 5, U 6, U 7, U 8, U 9, x10, U 11, x12, U 13, U 14, U 15, x16, U 17, x18, U 19, U 20, U 21, U 22, U 23, U 24, U 25, U 26, U 27, U 28, U 29, U 30, U 31, U 32, U 33, U 34, U 35, U 36, U 37, U 38, U 39, U 40, U 41, U 42, U 43, U 44, U 45, U 46, U 47, U 48, U 49, U 50, U 51, U 52, U 53, U 54, U 55, U 56, U 57, U 58, U 59, U 60, U 61, U 62, U 63, U 64, U 65, U 66, U 67, U 68, U 69, U 70, U 71, U 72, U 73, U 74, U 75, U 76, U 77, U 78, U 79, U 80, U 81, U 82, U 83, U 84, U 85, U 86, U 87, U 88, U 89, U 90, U 91, U 92, U 93, U 94, U 95, U 96, U 97, U 98, U 99, U 100, U 101, U 102, U 103, U 104, U 105, U 106, U 107, U 108, U 109, U 110, U 111, U 112, U 113, U 114, U 115, U 116, U 117, U 118, U 119, U 120, U 121, U 122, U 123, U 124, U 125, U 126, U 127, U 128, U 129, U 130, U 131, U 132, U 133, U 134, U 135, U 136, U 137, U 138, U 139, U 140, U 141, U 142, U 143, U 144, U 145, U 146, U 147, U 148, U 149, U 150, U 151, U 152, U 153, U 154, U 155, U 156, U 157, U 158, U 159, U 160, U 161, U 162, U 163, U 164, U 165, U 166, U 167, U 168, U 169, U 170, U 171, U 172, U 173, U 174, U 175, U 176, U 177, U 178, U 179, U 180, U 181, U 182, U 183, U 184, U 185, U 186, U 187, U 188, U 189, U 190, U 191, U 192, U 193, U 194, U 195, U 196, U 197, U 198, U 199, U 200, U 201, U 202, U 203, U 204, U 205, U 206, U 207, U 208, U 209, U 210, U 211, U 212, U 213, U 214, U 215, U 216, U 217, U 218, U 219, U 220, U 221, U 222, U 223, U 224, U 225, U 226, U 227, U 228, U 229, U 230, U 231, U 232, U 233, U 234, U 235, U 236, U 237, U 238, U 239, U 240, U 241, U 242, U 243, U 244, U 245, U 246, U 247, U 248, U 249, U 250, U 251, U 252, U 253, U 254, U 255, U 256, U 257, U 258, U 259, U 260, U 261, U 262, U 263, U 264, U 265, U 266, U 267, U 268, U 269, U 270, U 271, U 272, U 273, U 274, U 275, U 276, U 277, U 278, U 279, U 280, U 281, U 282, U 283, U 284, U 285], []⟩ := by
  have e := act_frame a 286 hs hd
  obtain ⟨f, hf⟩ : ∃ f : Nat → Value, (fun i => a.tmps.getD i undef) = f := ⟨_, rfl⟩
  rw [hf, show ((List.range 286).map f).toArray = #[f 0, f 1, f 2, f 3, f 4, f 5, f 6, f 7, f 8, f 9, f 10, f 11, f 12, f 13, f 14, f 15, f 16, f 17, f 18, f 19, f 20, f 21, f 22, f 23, f 24, f 25, f 26, f 27, f 28, f 29, f 30, f 31, f 32, f 33, f 34, f 35, f 36, f 37, f 38, f 39, f 40, f 41, f 42, f 43, f 44, f 45, f 46, f 47, f 48, f 49, f 50, f 51, f 52, f 53, f 54, f 55, f 56, f 57, f 58, f 59, f 60, f 61, f 62, f 63, f 64, f 65, f 66, f 67, f 68, f 69, f 70, f 71, f 72, f 73, f 74, f 75, f 76, f 77, f 78, f 79, f 80, f 81, f 82, f 83, f 84, f 85, f 86, f 87, f 88, f 89, f 90, f 91, f 92, f 93, f 94, f 95, f 96, f 97, f 98, f 99, f 100, f 101, f 102, f 103, f 104, f 105, f 106, f 107, f 108, f 109, f 110, f 111, f 112, f 113, f 114, f 115, f 116, f 117, f 118, f 119, f 120, f 121, f 122, f 123, f 124, f 125, f 126, f 127, f 128, f 129, f 130, f 131, f 132, f 133, f 134, f 135, f 136, f 137, f 138, f 139, f 140, f 141, f 142, f 143, f 144, f 145, f 146, f 147, f 148, f 149, f 150, f 151, f 152, f 153, f 154, f 155, f 156, f 157, f 158, f 159, f 160, f 161, f 162, f 163, f 164, f 165, f 166, f 167, f 168, f 169, f 170, f 171, f 172, f 173, f 174, f 175, f 176, f 177, f 178, f 179, f 180, f 181, f 182, f 183, f 184, f 185, f 186, f 187, f 188, f 189, f 190, f 191, f 192, f 193, f 194, f 195, f 196, f 197, f 198, f 199, f 200, f 201, f 202, f 203, f 204, f 205, f 206, f 207, f 208, f 209, f 210, f 211, f 212, f 213, f 214, f 215, f 216, f 217, f 218, f 219, f 220, f 221, f 222, f 223, f 224, f 225, f 226, f 227, f 228, f 229, f 230, f 231, f 232, f 233, f 234, f 235, f 236, f 237, f 238, f 239, f 240, f 241, f 242, f 243, f 244, f 245, f 246, f 247, f 248, f 249, f 250, f 251, f 252, f 253, f 254, f 255, f 256, f 257, f 258, f 259, f 260, f 261, f 262, f 263, f 264, f 265, f 266, f 267, f 268, f 269, f 270, f 271, f 272, f 273, f 274, f 275, f 276, f 277, f 278, f 279, f 280, f 281, f 282, f 283, f 284, f 285] from rfl] at e
  refine ⟨f, ?_⟩
  have hi : ∀ i, f i = a.tmps.getD i undef := fun i => by rw [← hf]
  rw [e]
  simp only [show f 10 = x10 from (hi 10).trans h10, show f 12 = x12 from (hi 12).trans h12, show f 16 = x16 from (hi 16).trans h16, show f 18 = x18 from (hi 18).trans h18]

set_option maxRecDepth 100000 in
set_option maxHeartbeats 16000000 in
theorem carried_no (b : Int) (w : World) {A1 A2 A3 : Option Addr} {n1 k1 n2 k2 n3 k3 : Nat} {L : List Fl} {z2 z3 : List Int} (hL : IsTxs w A1 n1 L) (h2 : Ints w .u16 A2 n2 z2) (h3 : Ints w .u8 A3 n3 z3) (hchk : ∀ w, Calls Try.prog 6 #[.agg #[.int .i64 1, .int .i64 b, .int .i64 16, .int .i64 4, .int .i64 0, .int .i64 0, .int .i64 0, .int .i64 0, .int .i64 0, .int .i64 5000]] w fun e w' => e = .returned (.int .i64 1) ∧ Frm No w w') : Calls Try.prog 3 #[.int .i64 b, .slice A1 n1 k1, .slice A2 n2 k2, .slice A3 n3 k3] w fun e w' => e = .returned (.bool true) ∧ Frm No w w' := by
  have hu : Calls Try.prog 4 #[.int .i64 1] w fun e w' => e = .returned (.agg #[.int .i64 1, .int .i64 5, .int .i64 16, .int .i64 4, .int .i64 0, .int .i64 0, .int .i64 0, .int .i64 0, .int .i64 0, .int .i64 5000]) ∧ Frm No w w' := usual_um w
  go_enter Try.func3, Try.ntmps3
  go_wp2_with fail
  refine hu.mono ?_
  rintro e w1 ⟨rfl, F1⟩
  obtain ⟨w2, hw2⟩ : ∃ w2, w1.alloc (.cells #[.int .i64 1, .int .i64 b, .int .i64 16, .int .i64 4, .int .i64 0, .int .i64 0, .int .i64 0, .int .i64 0, .int .i64 0, .int .i64 5000] 26) = w2 := ⟨_, rfl⟩
  have F2 : Frm No w w2 := by rw [← hw2]; exact F1.alloc _
  have B2 : Blk w2 w1.heap.size #[.int .i64 1, .int .i64 b, .int .i64 16, .int .i64 4, .int .i64 0, .int .i64 0, .int .i64 0, .int .i64 0, .int .i64 0, .int .i64 5000] 26 := by rw [← hw2]; exact Blk.new w1 _ _
  have hqn := queue_new w2 20000 (by decide) (by decide)
  have H2 := Lib.hid (And.intro F2 B2)
  clear hu F1 F2 B2
  go_wp2_with fail
  clear hw2
  obtain ⟨g9, hg9⟩ : ∃ g9, w1.heap.size = g9 := ⟨_, rfl⟩
  rw [hg9] at H2 ⊢
  refine hqn.mono ?_
  rintro e w3 ⟨rfl, Q3, F3⟩
  obtain ⟨gq, hgq⟩ : ∃ gq, w2.heap.size = gq := ⟨_, rfl⟩
  rw [hgq] at Q3 ⊢
  have B3 := F3.blk H2.out.2 (fun h => h)
  have hlq : w.heap.size ≤ gq := by have := H2.out.1.size; omega
  have y0 : w3.cell? ⟨g9, 0, none⟩ = some (.int .i64 1) := B3.cell 0
  have y1 : w3.cell? ⟨g9, 1, none⟩ = some (.int .i64 b) := B3.cell 1
  have y2 : w3.cell? ⟨g9, 2, none⟩ = some (.int .i64 16) := B3.cell 2
  have y3 : w3.cell? ⟨g9, 3, none⟩ = some (.int .i64 4) := B3.cell 3
  have y4 : w3.cell? ⟨g9, 4, none⟩ = some (.int .i64 0) := B3.cell 4
  have y5 : w3.cell? ⟨g9, 5, none⟩ = some (.int .i64 0) := B3.cell 5
  have y6 : w3.cell? ⟨g9, 6, none⟩ = some (.int .i64 0) := B3.cell 6
  have y7 : w3.cell? ⟨g9, 7, none⟩ = some (.int .i64 0) := B3.cell 7
  have y8 : w3.cell? ⟨g9, 8, none⟩ = some (.int .i64 0) := B3.cell 8
  have y9 : w3.cell? ⟨g9, 9, none⟩ = some (.int .i64 5000) := B3.cell 9
  have H3 := Lib.hid (And.intro (H2.out.1.thenN F3) (And.intro B3 (And.intro Q3 hlq)))
  clear hqn Q3 F3 B3 hlq hg9 hgq
  have hck := hchk w3
  go_wp2_with fail
  refine hck.mono ?_
  rintro e w4 ⟨rfl, F4⟩
  clear y0 y1 y2 y3 y4 y5 y6 y7 y8 y9 hck
  have H4 := Lib.hid (And.intro (H3.out.1.thenN F4) (And.intro (F4.blk H3.out.2.1 (fun h => h)) (And.intro (H3.out.2.2.1.frmN F4) H3.out.2.2.2)))
  clear F4
  have hal := alive_yes w4
  go_wp2_with fail
  refine hal.mono ?_
  rintro e w5 ⟨rfl, F5⟩
  have H5 := Lib.hid (H4.out.1.thenN F5)
  clear F5 hal
  go_wp2_with fail
  go_ret
  exact ⟨rfl, H5.out⟩
set_option maxRecDepth 100000 in
set_option maxHeartbeats 16000000 in
theorem carried_ok (b : Int) (w : World) {A1 A2 A3 : Option Addr} {n1 k1 n2 k2 n3 k3 : Nat} {L : List Fl} {z2 z3 : List Int} (hL : IsTxs w A1 n1 L) (h2 : Ints w .u16 A2 n2 z2) (h3 : Ints w .u8 A3 n3 z3) (hb : b = 5 ∨ b = 10) (hchk : ∀ w, Calls Try.prog 6 #[.agg #[.int .i64 1, .int .i64 b, .int .i64 16, .int .i64 4, .int .i64 0, .int .i64 0, .int .i64 0, .int .i64 0, .int .i64 0, .int .i64 5000]] w fun e w' => e = .returned (.int .i64 0) ∧ Frm No w w') : Calls Try.prog 3 #[.int .i64 b, .slice A1 n1 k1, .slice A2 n2 k2, .slice A3 n3 k3] w fun e w' => e = .returned (.bool true) ∧ Frm No w w' := by
  have H := Lib.hid (And.intro hL (And.intro h2 (And.intro h3 hb)))
  clear hL h2 h3 hb
  have hu : Calls Try.prog 4 #[.int .i64 1] w fun e w' => e = .returned (.agg #[.int .i64 1, .int .i64 5, .int .i64 16, .int .i64 4, .int .i64 0, .int .i64 0, .int .i64 0, .int .i64 0, .int .i64 0, .int .i64 5000]) ∧ Frm No w w' := usual_um w
  go_enter Try.func3, Try.ntmps3
  go_wp2_with fail
  refine hu.mono ?_
  rintro e w1 ⟨rfl, F1⟩
  obtain ⟨w2, hw2⟩ : ∃ w2, w1.alloc (.cells #[.int .i64 1, .int .i64 b, .int .i64 16, .int .i64 4, .int .i64 0, .int .i64 0, .int .i64 0, .int .i64 0, .int .i64 0, .int .i64 5000] 26) = w2 := ⟨_, rfl⟩
  have F2 : Frm No w w2 := by rw [← hw2]; exact F1.alloc _
  have B2 : Blk w2 w1.heap.size #[.int .i64 1, .int .i64 b, .int .i64 16, .int .i64 4, .int .i64 0, .int .i64 0, .int .i64 0, .int .i64 0, .int .i64 0, .int .i64 5000] 26 := by rw [← hw2]; exact Blk.new w1 _ _
  have hqn := queue_new w2 20000 (by decide) (by decide)
  have H2 := Lib.hid (And.intro F2 B2)
  clear hu F1 F2 B2
  go_wp2_with fail
  clear hw2
  obtain ⟨g9, hg9⟩ : ∃ g9, w1.heap.size = g9 := ⟨_, rfl⟩
  rw [hg9] at H2 ⊢
  refine hqn.mono ?_
  rintro e w3 ⟨rfl, Q3, F3⟩
  obtain ⟨gq, hgq⟩ : ∃ gq, w2.heap.size = gq := ⟨_, rfl⟩
  rw [hgq] at Q3 ⊢
  have B3 := F3.blk H2.out.2 (fun h => h)
  have hlq : w.heap.size ≤ gq := by have := H2.out.1.size; omega
  have y0 : w3.cell? ⟨g9, 0, none⟩ = some (.int .i64 1) := B3.cell 0
  have y1 : w3.cell? ⟨g9, 1, none⟩ = some (.int .i64 b) := B3.cell 1
  have y2 : w3.cell? ⟨g9, 2, none⟩ = some (.int .i64 16) := B3.cell 2
  have y3 : w3.cell? ⟨g9, 3, none⟩ = some (.int .i64 4) := B3.cell 3
  have y4 : w3.cell? ⟨g9, 4, none⟩ = some (.int .i64 0) := B3.cell 4
  have y5 : w3.cell? ⟨g9, 5, none⟩ = some (.int .i64 0) := B3.cell 5
  have y6 : w3.cell? ⟨g9, 6, none⟩ = some (.int .i64 0) := B3.cell 6
  have y7 : w3.cell? ⟨g9, 7, none⟩ = some (.int .i64 0) := B3.cell 7
  have y8 : w3.cell? ⟨g9, 8, none⟩ = some (.int .i64 0) := B3.cell 8
  have y9 : w3.cell? ⟨g9, 9, none⟩ = some (.int .i64 5000) := B3.cell 9
  have H3 := Lib.hid (And.intro (H2.out.1.thenN F3) (And.intro B3 (And.intro Q3 hlq)))
  clear hqn Q3 F3 B3 hlq hg9 hgq
  have hck := hchk w3
  go_wp2_with fail
  refine hck.mono ?_
  rintro e w4 ⟨rfl, F4⟩
  clear y0 y1 y2 y3 y4 y5 y6 y7 y8 y9 hck
  have H4 := Lib.hid (And.intro (H3.out.1.thenN F4) (And.intro (F4.blk H3.out.2.1 (fun h => h)) (And.intro (H3.out.2.2.1.frmN F4) H3.out.2.2.2)))
  clear F4
  by_cases hn2 : n2 = 0
  · subst hn2
    have hal := alive_yes w4
    go_wp2_with fail
    refine hal.mono ?_
    rintro e w5 ⟨rfl, F5⟩
    have H5 := Lib.hid (H4.out.1.thenN F5)
    clear F5 hal
    go_wp2_with fail
    go_ret
    exact ⟨rfl, H5.out⟩
  · have n20 : ((n2 : Int) == 0) = false := by rw [beq_eq_false_iff_ne]; omega
    go_upto_block 0 with fail
    have h0 : LS w w4 g9 b gq (.slice none 0 0) [] [] 0 0 := ⟨H4.out.2.2.1, H4.out.2.1, Kept.nil w w4, rfl, (fun t ht => by cases ht), Nat.le_refl _, Nat.le_refl _, Int.le_refl _, Int.le_refl _, H4.out.1, H4.out.2.2.2⟩
    refine push_walk (x2 := .slice A2 n2 k2) (x3 := .slice A3 n3 k3) rfl rfl rfl rfl rfl rfl rfl rfl rfl H.out.1 h0 (fun _ _ _ _ _ h => h) ?hr ?hq
    case hr =>
      intro a' wx Fx hd' e8
      exact ret_true (R := fun e w' => e = .returned (.bool true) ∧ Frm No w w') hd' e8 ⟨rfl, Fx⟩
    clear h0
    intro a' wx v F T ls HS hs' hd' e2 e3 e9 e10 e12
    obtain ⟨U, rfl⟩ := fr3z hs' hd' e2 e3 e9 e10 e12
    clear hs' hd' e2 e3 e9 e10 e12
    obtain ⟨nk, hnk⟩ : ∃ nk, F.length = nk := ⟨_, rfl⟩
    obtain ⟨AK, kK, rfl, -⟩ := HS.k.out hnk
    have hg1 := glue_new wx
    have H5 := Lib.hid (And.intro HS hnk)
    clear HS hnk
    go_wp2_with fail
    refine hg1.mono ?_
    rintro e w5 ⟨rfl, G5, F5⟩
    have hg2 := glue_new w5
    have hw5 : wx.heap.size < w5.heap.size := by obtain ⟨cs, hb⟩ := G5.blk; exact hb.lt
    obtain ⟨gw, hgw⟩ : ∃ gw, wx.heap.size = gw := ⟨_, rfl⟩
    have hlw : w.heap.size ≤ gw := by rw [← hgw]; exact H5.out.1.frm.size
    rw [hgw] at G5 hw5 ⊢
    have H6 := Lib.hid (And.intro (H5.out.1.frmN F5) (And.intro G5 (And.intro hw5 hlw)))
    clear hg1 G5 F5 hw5 hlw hgw
    go_wp2_with fail
    refine hg2.mono ?_
    rintro e w6 ⟨rfl, G6, F6⟩
    obtain ⟨gp, hgp⟩ : ∃ gp, w5.heap.size = gp := ⟨_, rfl⟩
    have hlp : w.heap.size ≤ gp := by rw [← hgp]; exact H6.out.1.frm.size
    have hne : gw ≠ gp := by have := H6.out.2.2.1; omega
    rw [hgp] at G6 ⊢
    have L6 := H6.out.1.frmN F6
    have H7 := Lib.hid (And.intro L6 (And.intro (H6.out.2.1.frmN F6) (And.intro G6 (And.intro hlp hne))))
    clear hg2 G6 F6 hlp hne hgp L6
    go_upto_block 2 with fail
    rcases H.out.2.2.2 with rfl | rfl
    · refine main_walk5 rfl rfl rfl rfl rfl rfl rfl rfl rfl rfl rfl rfl rfl ⟨by rw [Int.natCast_zero, Int.sub_zero]; exact H7.out.1.q, H7.out.1.c, H7.out.1.k, H7.out.2.1, H7.out.1.frm, H7.out.1.lq, H6.out.2.2.2⟩ H5.out.2 H7.out.1.pl H7.out.2.2.1 H7.out.2.2.2.2 H7.out.2.2.2.1 H.out.2.1 (by omega) H.out.2.2.1 (fun _ _ _ _ _ h => h) ?_
      intro a' wz T' tk' n M P hs' hd' e10 e12 e16 e18
      obtain ⟨U', rfl⟩ := fr3y hs' hd' e10 e12 e16 e18
      clear hs' hd' e10 e12 e16 e18
      have hal := alive_yes wz
      have H8 := Lib.hid (And.intro M P)
      clear M P
      go_wp2_with fail
      refine hal.mono ?_
      rintro e w8 ⟨rfl, F8⟩
      obtain ⟨byt, hbyt⟩ : ∃ byt : Int, ((tl T' : Nat) : Int) - (tk' : Nat) = byt := ⟨_, rfl⟩
      have M8 := H8.out.1.frmN F8
      have hby := bytes_is w8 gq 20000 T' tk' ls byt (by rw [← hbyt]; exact M8.q)
      have hhe := held_is w8 gw (hOf T' tk') 0 M8.g
      have hlo := lost_is w8 gw (hOf T' tk') 0 M8.g
      have H9 := Lib.hid (And.intro M8 hbyt)
      clear M8 hbyt F8 hal
      by_cases hb0 : 0 < byt
      · go_wp2_with fail
        refine hby.mono ?_
        rintro e wq ⟨rfl, hwx⟩
        have hwx2 := hwx.symm
        clear hwx hby
        subst hwx2
        go_wp2_with fail
        go_ret
        exact ⟨rfl, H9.out.1.frm⟩
      · have hT0 : T' = [] := by
          rcases tl_pos H8.out.2.wt with h | h
          · exact h
          · have := H9.out.2; omega
        have hnn : n = nk := by rw [← H5.out.2]; exact H8.out.2.done hT0
        have hh0 : ((hOf T' tk').getD []).length = 0 := by rw [H8.out.2.z hT0]; rfl
        rw [hh0] at hhe
        subst hnn
        clear hh0 hT0
        go_wp2_with fail
        refine hby.mono ?_
        rintro e wq ⟨rfl, hwx⟩
        have hwx2 := hwx.symm
        clear hwx hby
        subst hwx2
        go_wp2_with fail
        refine hhe.mono ?_
        rintro e wq ⟨rfl, hwx⟩
        have hwx2 := hwx.symm
        clear hwx hhe
        subst hwx2
        go_wp2_with fail
        refine hlo.mono ?_
        rintro e wq ⟨rfl, hwx⟩
        have hwx2 := hwx.symm
        clear hwx hlo
        subst hwx2
        go_wp2_with fail
        go_ret
        exact ⟨rfl, H9.out.1.frm⟩
    · refine main_walk10 rfl rfl rfl rfl rfl rfl rfl rfl rfl rfl rfl rfl rfl ⟨by rw [Int.natCast_zero, Int.sub_zero]; exact H7.out.1.q, H7.out.1.c, H7.out.1.k, H7.out.2.1, H7.out.1.frm, H7.out.1.lq, H6.out.2.2.2⟩ H5.out.2 H7.out.1.pl H7.out.2.2.1 H7.out.2.2.2.2 H7.out.2.2.2.1 H.out.2.1 (by omega) H.out.2.2.1 (fun _ _ _ _ _ h => h) ?_
      intro a' wz T' tk' n M P hs' hd' e10 e12 e16 e18
      obtain ⟨U', rfl⟩ := fr3y hs' hd' e10 e12 e16 e18
      clear hs' hd' e10 e12 e16 e18
      have hal := alive_yes wz
      have H8 := Lib.hid (And.intro M P)
      clear M P
      go_wp2_with fail
      refine hal.mono ?_
      rintro e w8 ⟨rfl, F8⟩
      obtain ⟨byt, hbyt⟩ : ∃ byt : Int, ((tl T' : Nat) : Int) - (tk' : Nat) = byt := ⟨_, rfl⟩
      have M8 := H8.out.1.frmN F8
      have hby := bytes_is w8 gq 20000 T' tk' ls byt (by rw [← hbyt]; exact M8.q)
      have hhe := held_is w8 gw (hOf T' tk') 0 M8.g
      have hlo := lost_is w8 gw (hOf T' tk') 0 M8.g
      have H9 := Lib.hid (And.intro M8 hbyt)
      clear M8 hbyt F8 hal
      by_cases hb0 : 0 < byt
      · go_wp2_with fail
        refine hby.mono ?_
        rintro e wq ⟨rfl, hwx⟩
        have hwx2 := hwx.symm
        clear hwx hby
        subst hwx2
        go_wp2_with fail
        go_ret
        exact ⟨rfl, H9.out.1.frm⟩
      · have hT0 : T' = [] := by
          rcases tl_pos H8.out.2.wt with h | h
          · exact h
          · have := H9.out.2; omega
        have hnn : n = nk := by rw [← H5.out.2]; exact H8.out.2.done hT0
        have hh0 : ((hOf T' tk').getD []).length = 0 := by rw [H8.out.2.z hT0]; rfl
        rw [hh0] at hhe
        subst hnn
        clear hh0 hT0
        go_wp2_with fail
        refine hby.mono ?_
        rintro e wq ⟨rfl, hwx⟩
        have hwx2 := hwx.symm
        clear hwx hby
        subst hwx2
        go_wp2_with fail
        refine hhe.mono ?_
        rintro e wq ⟨rfl, hwx⟩
        have hwx2 := hwx.symm
        clear hwx hhe
        subst hwx2
        go_wp2_with fail
        refine hlo.mono ?_
        rintro e wq ⟨rfl, hwx⟩
        have hwx2 := hwx.symm
        clear hwx hlo
        subst hwx2
        go_wp2_with fail
        go_ret
        exact ⟨rfl, H9.out.1.frm⟩
theorem u8_of {a : Int} (h : (Lit.int .u8 a).wf = true) : 0 ≤ a ∧ a ≤ 255 := by
  simp only [Lit.wf, Bool.and_eq_true, decide_eq_true_eq] at h
  exact h
theorem ints_bin {w : World} {A : Option Addr} {n : Nat} {zs : List Int} (h : Ints w .u8 A n zs) : Bin w A (zs.map Int.toNat) ∧ (zs.map Int.toNat).length = n ∧ ∀ c ∈ zs.map Int.toNat, c < 256 := by
  obtain ⟨h1, h2, h3, h4⟩ := h
  refine ⟨⟨by simp, fun h0 => ?_⟩, by simp [h1], fun c hc => ?_⟩
  · rw [List.length_map, h1] at h0
    obtain ⟨ad, e, hb, hc⟩ := h4 h0
    refine ⟨ad, e, hb, fun j u hu => ?_⟩
    rw [List.getElem?_map, List.getElem?_map] at hu
    by_cases hj : j < zs.length
    · rw [List.getElem?_eq_getElem hj] at hu
      simp only [Option.map_some, Option.some.injEq] at hu
      have h5 := hc j (by omega)
      rw [List.getD_eq_getElem?_getD, List.getElem?_eq_getElem hj] at h5
      rw [h5, ← hu]
      have h6 := (u8_of (h3 _ (List.getElem_mem hj))).1
      show some (Value.int .u8 zs[j]) = some (Value.int .u8 ((zs[j].toNat : Nat) : Int))
      rw [Int.toNat_of_nonneg h6]
    · rw [List.getElem?_eq_none (by omega)] at hu; simp at hu
  · obtain ⟨z, hz, rfl⟩ := List.mem_map.1 hc
    have := u8_of (h3 z hz)
    omega
theorem open_bytes {H : Type} {enc : TypeId × Value → H} {w : World} {m : Nat} {v : Value} {y : DataW H × List MemPlace} (h : DataW.trod enc Try.prog w 0 (fun _ => true) true m 24 [v] = some y) :
    ∃ A l c bs, v = .slice A l c ∧ Bin w A bs ∧ bs.length = l ∧ (∀ c ∈ bs, c < 256) ∧ l ≤ 9223372036854775807 := by
  obtain ⟨A, l, c, rfl⟩ : ∃ A l c, v = .slice A l c := by
    rcases DataW.trod_slice Try.underlying24 h with ⟨hcs, _⟩ | ⟨a, l, c, elems, rest, n, _, hcs, _, _, hl, _⟩
    · simp at hcs
      exact ⟨none, 0, 0, hcs⟩
    · simp at hcs
      exact ⟨_, _, _, hcs⟩
  obtain ⟨zs, hz⟩ := open_Ints (k := .u8) (A := A) (len := l) (cap := c) Try.underlying24 Try.underlying5 (by kernel_rfl) ⟨m, h⟩
  obtain ⟨h1, h2, h3⟩ := ints_bin hz
  exact ⟨A, l, c, _, rfl, h1, h2, h3, hz.2.1⟩
/-- Texts that came in, as they are read. -/
theorem open_txs {H : Type} {enc : TypeId × Value → H} {w : World} {A : Option Addr} {len cap : Nat} {d : DataW H} {p : List MemPlace}
    (h : DataW.Trod enc Try.prog w 0 (fun _ => true) true 22 (.slice A len cap) d p) : ∃ L, IsTxs w A len L := by
  obtain ⟨hm, he⟩ := open_elems (C := 1) Try.underlying22 (by kernel_rfl) (by omega) h
  obtain ⟨l, hl, hp⟩ := list_of (α := Fl) (n := len) (p := fun i f => ∃ ad, A = some ad ∧ ad.block < w.heap.size ∧ w.cell? (ad.add i) = some f.val ∧ Bin w f.A f.bs ∧ f.bs.length ≤ 9223372036854775807 ∧ ∀ x ∈ f.bs, x < 256) (fun i hi => by
      obtain ⟨ad, cs, y, m, e, hb, hlen, hc, ht⟩ := he i hi
      obtain ⟨v, rfl⟩ : ∃ v, cs = [v] := by
        cases cs with
        | nil => cases hlen
        | cons v r => cases r with
          | nil => exact ⟨v, rfl⟩
          | cons _ _ => simp at hlen
      obtain ⟨A', l', c', bs, rfl, r1, r2, r3, r4⟩ := open_bytes ht
      have h0 := hc 0 (by omega)
      rw [Nat.mul_one, Nat.add_zero] at h0
      refine ⟨⟨A', c', bs⟩, ad, e, hb, ?_, r1, by rw [r2]; exact r4, r3⟩
      rw [h0, ← r2]
      rfl)
  exact ⟨l, hl, hm, hp⟩
theorem open_u16s {H : Type} {enc : TypeId × Value → H} {w : World} {A : Option Addr} {len cap : Nat} {d : DataW H} {p : List MemPlace}
    (h : DataW.Trod enc Try.prog w 0 (fun _ => true) true 23 (.slice A len cap) d p) : ∃ zs, Ints w .u16 A len zs := open_Ints Try.underlying23 Try.underlying45 (by kernel_rfl) h
theorem open_u8s {H : Type} {enc : TypeId × Value → H} {w : World} {A : Option Addr} {len cap : Nat} {d : DataW H} {p : List MemPlace}
    (h : DataW.Trod enc Try.prog w 0 (fun _ => true) true 24 (.slice A len cap) d p) : ∃ zs, Ints w .u8 A len zs := open_Ints Try.underlying24 Try.underlying5 (by kernel_rfl) h
theorem carried_walk (b : Int) (A1 : Option Addr) (n1 k1 : Nat) (L : List Fl) (A2 : Option Addr) (n2 k2 : Nat) (z2 : List Int) (A3 : Option Addr) (n3 k3 : Nat) (z3 : List Int) (w : World) (wb : (Lit.int .i64 b).wf = true) (hL : IsTxs w A1 n1 L) (h2 : Ints w .u16 A2 n2 z2) (h3 : Ints w .u8 A3 n3 z3) :
    Calls Try.prog 3 #[.int .i64 b, .slice A1 n1 k1, .slice A2 n2 k2, .slice A3 n3 k3] w fun e w' => e = .returned (.bool true) ∧ Frm No w w' := by
  by_cases h5 : b = 5
  · subst h5
    exact carried_ok 5 w hL h2 h3 (.inl rfl) check5
  · by_cases h10 : b = 10
    · subst h10
      exact carried_ok 10 w hL h2 h3 (.inr rfl) check10
    · exact carried_no b w hL h2 h3 (fun w => check_no w b h5 h10)
end Go.Proofs.Ytccaaldfccgncaa.A
