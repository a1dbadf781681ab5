/- TopCarried: a round, its head. -/
import Derived.Test.YtccaaldfccgncaaPB
namespace Go.Proofs.Ytccaaldfccgncaa.A
open Go.RowKit Go.Proofs.Ytccaaldfccgncaa.K
set_option linter.unusedVariables false
set_option linter.unusedSimpArgs false

theorem u16_of {z : Int} (h : (Lit.int .u16 z).wf = true) : 0 ≤ z ∧ z ≤ 65535 := by
  simp only [Lit.wf, Bool.and_eq_true, decide_eq_true_eq] at h
  exact h
theorem tl_le {T : List Tx} {tk : Nat} (h : Waits T tk) : tl T ≤ 64000 ∧ tk ≤ 1000 ∨ T = [] := by
  cases hT : T with
  | nil => exact .inr rfl
  | cons t R =>
    left
    rw [← hT]
    have h1 : tl T ≤ 1000 * (T.map Tx.bs).length := tot_le fun b hb => by
      obtain ⟨u, hu, rfl⟩ := List.mem_map.1 hb
      exact (h.2.1 u hu).2
    have h2 := h.2.2 t R hT
    have h3 := h.2.1 t (by rw [hT]; exact List.mem_cons_self ..)
    rw [List.length_map] at h1
    have := h.1
    omega
set_option maxRecDepth 100000 in
theorem fr3r {a : Act} {x2 x3 x9 x10 x12 x16 x17 x18 x19 x20 x21 : Value} (hs : a.tmps.size = 286) (hd : a.defers = []) (h2 : a.tmps.getD 2 undef = x2) (h3 : a.tmps.getD 3 undef = x3) (h9 : a.tmps.getD 9 undef = x9) (h10 : a.tmps.getD 10 undef = x10) (h12 : a.tmps.getD 12 undef = x12) (h16 : a.tmps.getD 16 undef = x16) (h17 : a.tmps.getD 17 undef = x17) (h18 : a.tmps.getD 18 undef = x18) (h19 : a.tmps.getD 19 undef = x19) (h20 : a.tmps.getD 20 undef = x20) (h21 : a.tmps.getD 21 undef = x21) : ∃ U : Nat → Value, a = ⟨#[U 0, U 1, x2, x3, U 4, U 5, U 6, U 7, U 8, x9, x10, U 11, x12, U 13, U 14, U 15, x16, x17, x18, x19, x20, x21, U 22, U 23, U 24, U 25, U 26, U 27, U 28, U 29, U 30, U 31, U 32, U 33, U 34, U 35, U 36, U 37, U 38, U 39, U 40, U 41, U 42, U 43, U 44, U 45, U 46, U 47, U 48, U 49, U 50, U 51, U 52, U 53, U 54, U 55, U 56, U 57, U 58, U 59, U 60, U 61, U 62, U 63, U 64, U 65, U 66, U 67, U 68, U 69, U 70, U 71, U 72, U 73, U 74, U 75, U 76, U 77, U 78, U 79, U 80, U 81, U 82, U 83, U 84, U 85, U 86, U 87, U 88, U 89, U 90, U 91, U 92, U 93, U 94, U 95, U 96, U 97, U 98, U 99, U 100, U 101, U 102, U 103, U 104, U 105, U 106, U 107, U 108, U 109, U 110, U 111, U 112, U 113, U 114, U 115, U 116, U 117, U 118, U 119, U 120, U 121, U 122, U 123, U 124, U 125, U 126, U 127, U 128, U 129, U 130, U 131, U 132, U 133, U 134, U 135, U 136, U 137, U 138, U 139, U 140, U 141, U 142, U 143, U 144, U 145, U 146, U 147, U 148, U 149, U 150, U 151, U 152, U 153, U 154, U 155, U 156, U 157, U 158, U 159, U 160, U 161, U 162, U 163, U 164, U 165, U 166, U 167, U 168, U 169, U 170, U 171, U 172, U 173, U 174, U 175, U 176, U 177, U 178, U 179, U 180, U 181, U 182, U 183, U 184, U 185, U 186, U 187, U 188, U 189, U 190, U 191, U 192, U 193, U 194, U 195, U 196, U 197, U 198, U 199, U 200, U 201, U 202, U 203, U 204, U 205, U 206, U 207, U 208, U 209, U 210, U 211, U 212, U 213, U 214, U 215, U 216, U 217, U 218, U 219, U 220, U 221, U 222, U 223, U 224, U 225, U 226, U 227, U 228, U 229, U 230, U 231, U 232, U 233, U 234, U 235, U 236, U 237, U 238, U 239, U 240, U 241, U 242, U 243, U 244, U 245, U 246, U 247, U 248, U 249, U 250, U 251, U 252, U 253, U 254, U 255, U 256, U 257, U 258, U 259, U 260, U 261, U 262, U 263, U 264, U 265, U 266, U 267, U 268, U 269, U 270, U 271, U 272, U 273, U 274, U 275, U 276, U 277, U 278, U 279, U 280, U 281, U 282, U 283, U 284, U 285], []⟩ := by
  have e := act_frame a 286 hs hd
  obtain ⟨f, hf⟩ : ∃ f : Nat → Value, (fun i => a.tmps.getD i undef) = f := ⟨_, rfl⟩
  rw [hf, show ((List.range 286).map f).toArray = #[f 0, f 1, f 2, f 3, f 4, f 5, f 6, f 7, f 8, f 9, f 10, f 11, f 12, f 13, f 14, f 15, f 16, f 17, f 18, f 19, f 20, f 21, f 22, f 23, f 24, f 25, f 26, f 27, f 28, f 29, f 30, f 31, f 32, f 33, f 34, f 35, f 36, f 37, f 38, f 39, f 40, f 41, f 42, f 43, f 44, f 45, f 46, f 47, f 48, f 49, f 50, f 51, f 52, f 53, f 54, f 55, f 56, f 57, f 58, f 59, f 60, f 61, f 62, f 63, f 64, f 65, f 66, f 67, f 68, f 69, f 70, f 71, f 72, f 73, f 74, f 75, f 76, f 77, f 78, f 79, f 80, f 81, f 82, f 83, f 84, f 85, f 86, f 87, f 88, f 89, f 90, f 91, f 92, f 93, f 94, f 95, f 96, f 97, f 98, f 99, f 100, f 101, f 102, f 103, f 104, f 105, f 106, f 107, f 108, f 109, f 110, f 111, f 112, f 113, f 114, f 115, f 116, f 117, f 118, f 119, f 120, f 121, f 122, f 123, f 124, f 125, f 126, f 127, f 128, f 129, f 130, f 131, f 132, f 133, f 134, f 135, f 136, f 137, f 138, f 139, f 140, f 141, f 142, f 143, f 144, f 145, f 146, f 147, f 148, f 149, f 150, f 151, f 152, f 153, f 154, f 155, f 156, f 157, f 158, f 159, f 160, f 161, f 162, f 163, f 164, f 165, f 166, f 167, f 168, f 169, f 170, f 171, f 172, f 173, f 174, f 175, f 176, f 177, f 178, f 179, f 180, f 181, f 182, f 183, f 184, f 185, f 186, f 187, f 188, f 189, f 190, f 191, f 192, f 193, f 194, f 195, f 196, f 197, f 198, f 199, f 200, f 201, f 202, f 203, f 204, f 205, f 206, f 207, f 208, f 209, f 210, f 211, f 212, f 213, f 214, f 215, f 216, f 217, f 218, f 219, f 220, f 221, f 222, f 223, f 224, f 225, f 226, f 227, f 228, f 229, f 230, f 231, f 232, f 233, f 234, f 235, f 236, f 237, f 238, f 239, f 240, f 241, f 242, f 243, f 244, f 245, f 246, f 247, f 248, f 249, f 250, f 251, f 252, f 253, f 254, f 255, f 256, f 257, f 258, f 259, f 260, f 261, f 262, f 263, f 264, f 265, f 266, f 267, f 268, f 269, f 270, f 271, f 272, f 273, f 274, f 275, f 276, f 277, f 278, f 279, f 280, f 281, f 282, f 283, f 284, f 285] from rfl] at e
  refine ⟨f, ?_⟩
  have hi : ∀ i, f i = a.tmps.getD i undef := fun i => by rw [← hf]
  rw [e]
  simp only [show f 2 = x2 from (hi 2).trans h2, show f 3 = x3 from (hi 3).trans h3, show f 9 = x9 from (hi 9).trans h9, show f 10 = x10 from (hi 10).trans h10, show f 12 = x12 from (hi 12).trans h12, show f 16 = x16 from (hi 16).trans h16, show f 17 = x17 from (hi 17).trans h17, show f 18 = x18 from (hi 18).trans h18, show f 19 = x19 from (hi 19).trans h19, show f 20 = x20 from (hi 20).trans h20, show f 21 = x21 from (hi 21).trans h21]

set_option maxRecDepth 100000 in
set_option maxHeartbeats 16000000 in
theorem round_walk5 {Q : Exit → Act → World → Prop} {a : Act} {w wr : World} {A2 A3 AK : Option Addr} {n2 k2 n3 k3 nk kK g9 gq gw gp n q0 tk i : Nat} {ls lp : Int} {gap : Bool} {F : List Fl} {T : List Tx} {hp : Option (List Nat)} {z2 z3 : List Int}
    (hs : a.tmps.size = 286) (hd : a.defers = []) (e2 : a.tmps.getD 2 undef = (.slice A2 n2 k2)) (e3 : a.tmps.getD 3 undef = (.slice A3 n3 k3)) (e9 : a.tmps.getD 9 undef = (.pointer (some ⟨g9, 0, none⟩))) (e10 : a.tmps.getD 10 undef = (.pointer (some ⟨gq, 0, none⟩))) (e12 : a.tmps.getD 12 undef = (.slice AK nk kK)) (e16 : a.tmps.getD 16 undef = (.pointer (some ⟨gw, 0, none⟩))) (e17 : a.tmps.getD 17 undef = (.pointer (some ⟨gp, 0, none⟩))) (e18 : a.tmps.getD 18 undef = (.int .i64 (n : Int))) (e19 : a.tmps.getD 19 undef = (.int .i64 (q0 : Int))) (e20 : a.tmps.getD 20 undef = (.bool gap)) (e21 : a.tmps.getD 21 undef = (.int .i64 (i : Int)))
    (hM : MC w wr g9 5 gq gw (.slice AK nk kK) F T tk ls (hOf T tk)) (hF : F.length = nk) (hPL : PL F T tk n) (hT : 1 ≤ T.length)
    (hG : IsG wr gp hp lp) (lp0 : 0 ≤ lp) (lp1 : lp ≤ 30 * (i : Int)) (hi : i < 3000) (hhp : gap = false → hp = none ∨ hp = hOf T tk)
    (hat : q0 ≤ n) (ne : gw ≠ gp) (hlp : w.heap.size ≤ gp) (h2 : Ints w .u16 A2 n2 z2) (n21 : 1 ≤ n2) (h3 : Ints w .u8 A3 n3 z3)
    (hP : ∀ c (a : Act) (d : Nat) v w, Q (.panic c) (a.put (some d) v) w → Q (.panic c) a w)
    (hQ : ∀ e a' wx T' tk' n' hp' lp' q gap', (e = .normal ∨ e = .exit 3) → MC w wx g9 5 gq gw (.slice AK nk kK) F T' tk' ls (hOf T' tk') → PL F T' tk' n' → IsG wx gp hp' lp' → 0 ≤ lp' → lp' ≤ 30 * ((i + 1 : Nat) : Int) → (gap' = false → hp' = none ∨ hp' = hOf T' tk') → q ≤ n' → a'.tmps.size = 286 → a'.defers = [] → a'.tmps.getD 2 undef = (.slice A2 n2 k2) → a'.tmps.getD 3 undef = (.slice A3 n3 k3) → a'.tmps.getD 9 undef = (.pointer (some ⟨g9, 0, none⟩)) → a'.tmps.getD 10 undef = (.pointer (some ⟨gq, 0, none⟩)) → a'.tmps.getD 12 undef = (.slice AK nk kK) → a'.tmps.getD 16 undef = (.pointer (some ⟨gw, 0, none⟩)) → a'.tmps.getD 17 undef = (.pointer (some ⟨gp, 0, none⟩)) → a'.tmps.getD 18 undef = (.int .i64 (n' : Int)) → a'.tmps.getD 19 undef = (.int .i64 (q : Int)) → a'.tmps.getD 20 undef = (.bool gap') → a'.tmps.getD 21 undef = (.int .i64 (i : Int)) → Q e a' wx) :
    Code.wp Try.prog (cL (cL (cR (cL (cL (cR (cL (cR (cR (cR (cR (cR (cR (cR (cR (cR (cR (Try.f3.body.getD .skip)))))))))))))))))) Q a wr := by
  obtain ⟨j, hj⟩ : ∃ j, i % n2 = j := ⟨_, rfl⟩
  have hjn : j < n2 := by rw [← hj]; exact Nat.mod_lt _ (by omega)
  have h63 := h2.2.1
  obtain ⟨ad2, rfl, hb2, hc2, hz2⟩ := h2.at_ hjn
  obtain ⟨z, hz⟩ : ∃ z, z2.getD j 0 = z := ⟨_, rfl⟩
  rw [hz] at hc2 hz2
  have y2 : wr.cell? (ad2.add j) = some (.int .u16 z) := by rw [← hc2]; exact World.cell?_of_block (hM.frm.block _ (by rw [block_add]; exact hb2) (fun h => h))
  have hzr : 0 ≤ z ∧ z ≤ 65535 := u16_of hz2
  have HQ := Lib.hid hQ
  have H := Lib.hid (And.intro hM (And.intro hF (And.intro hPL (And.intro hG (And.intro lp0 (And.intro lp1 (And.intro hhp (And.intro hat (And.intro ne (And.intro hlp (And.intro h2 h3)))))))))))
  clear hQ hc2 hz2 hz hM hF hPL hG lp0 lp1 hhp hat ne hlp h2 h3 hb2
  obtain ⟨U, rfl⟩ := fr3r hs hd e2 e3 e9 e10 e12 e16 e17 e18 e19 e20 e21
  clear hs hd e2 e3 e9 e10 e12 e16 e17 e18 e19 e20 e21
  unfold Try.f3
  dsimp only [cL, cR, Option.getD_some]
  obtain ⟨room, hroom⟩ : ∃ room : Nat, 1 + z % 300 = (room : Int) := ⟨(1 + z % 300).toNat, by omega⟩
  have hr1 : 1 ≤ room ∧ room ≤ 300 := by omega
  have htl := tl_le H.out.2.2.1.wt
  have htl2 : tl T ≤ 64000 ∧ tk ≤ 1000 := htl.resolve_right (fun e => by rw [e] at hT; exact absurd hT (by decide))
  obtain ⟨byt, hbyt⟩ : ∃ byt : Int, ((tl T : Nat) : Int) - (tk : Nat) = byt := ⟨_, rfl⟩
  have hbu := build_is wr gq room 20000 T tk ls byt (by rw [← hbyt]; exact H.out.1.q) (by decide) H.out.2.2.1.wt hT hr1.1 (by omega) (by omega) (by omega)
  have HR := Lib.hid (And.intro hr1 (And.intro hbyt hT))
  clear hr1 htl htl2 hbyt hT
  go_wp2_with fail
  refine hbu.mono ?_
  rintro e w1 ⟨fi, no, O, T', tk', AO, kO, AD, nD, kD, rfl, hno, R1, C1, Q1, F1⟩
  have hby := C1.byt H.out.2.2.1.wt
  have M1 := H.out.1.built Q1 (by have := HR.out.2.1; omega) F1
  have nt1 : ∀ t, t ≠ 64 → ∀ x cs, Blk wr x cs t → ¬ (x = gq) := fun t ht x cs hx e => by
    subst e
    obtain ⟨cs', hb⟩ := H.out.1.q.blk
    exact Blk.ne hx hb ht rfl
  have G1 := H.out.2.2.2.1.frm F1 (by obtain ⟨cs, hg⟩ := H.out.2.2.2.1.blk; exact nt1 72 (by decide) _ _ hg) (nt1 5 (by decide))
  have B2 := Blk.new w1 #[.int .i64 (fi : Int), .slice AO no kO, .slice AD nD kD] 42
  have F2 := (Frm.refl No w1).alloc (.cells #[.int .i64 (fi : Int), .slice AO no kO, .slice AD nD kD] 42)
  obtain ⟨w2, hw2⟩ : ∃ w2, w1.alloc (.cells #[.int .i64 (fi : Int), .slice AO no kO, .slice AD nD kD] 42) = w2 := ⟨_, rfl⟩
  obtain ⟨gt, hgt⟩ : ∃ gt, w1.heap.size = gt := ⟨_, rfl⟩
  rw [hw2] at B2 F2
  rw [hgt] at B2
  have hfo := C1.fld H.out.2.2.1.wt
  have h256 := C1.lt (H.out.2.2.1.lt fun f hf => (H.out.1.k.rd f hf).2)
  have htot : tot O ≤ 3000 := by obtain ⟨m, k, -, -, -, -, -, -, -, -, hr, -⟩ := C1; have := HR.out.1; omega
  obtain ⟨sn, hsn⟩ : ∃ sn : Nat, (i : Int) % 32 = (sn : Int) := ⟨i % 32, by omega⟩
  have hsn1 : sn ≤ 31 := by omega
  have hfi := C1.fi3
  have hpw := fun z0 z1 z2 z3 z4 z5 z6 z7 z8 => pd_write5 w2 fi sn AO no kO _ O z0 z1 z2 z3 z4 z5 z6 z7 z8 (R1.frmN F2) hno hfo htot hfi hsn1 h256
  have y9_0 : w2.cell? ⟨g9, 0, none⟩ = some (.int .i64 1) := (F2.blk M1.c (fun h => h)).cell 0
  have y9_1 : w2.cell? ⟨g9, 1, none⟩ = some (.int .i64 5) := (F2.blk M1.c (fun h => h)).cell 1
  have y9_2 : w2.cell? ⟨g9, 2, none⟩ = some (.int .i64 16) := (F2.blk M1.c (fun h => h)).cell 2
  have y9_3 : w2.cell? ⟨g9, 3, none⟩ = some (.int .i64 4) := (F2.blk M1.c (fun h => h)).cell 3
  have y9_4 : w2.cell? ⟨g9, 4, none⟩ = some (.int .i64 0) := (F2.blk M1.c (fun h => h)).cell 4
  have y9_5 : w2.cell? ⟨g9, 5, none⟩ = some (.int .i64 0) := (F2.blk M1.c (fun h => h)).cell 5
  have y9_6 : w2.cell? ⟨g9, 6, none⟩ = some (.int .i64 0) := (F2.blk M1.c (fun h => h)).cell 6
  have y9_7 : w2.cell? ⟨g9, 7, none⟩ = some (.int .i64 0) := (F2.blk M1.c (fun h => h)).cell 7
  have y9_8 : w2.cell? ⟨g9, 8, none⟩ = some (.int .i64 0) := (F2.blk M1.c (fun h => h)).cell 8
  have y9_9 : w2.cell? ⟨g9, 9, none⟩ = some (.int .i64 5000) := (F2.blk M1.c (fun h => h)).cell 9
  have t0 : w2.cell? ⟨gt, 0, none⟩ = some (.int .i64 (fi : Int)) := B2.cell 0
  have t1 : w2.cell? ⟨gt, 1, none⟩ = some (.slice AO no kO) := B2.cell 1
  have hgt2 := B2.lt
  have H2 := Lib.hid (And.intro (M1.frmN F2) (And.intro (G1.frmN F2) (And.intro C1 (And.intro hno (And.intro hfo (And.intro h256 htot))))))
  clear hby M1 nt1 G1 B2 F2 Q1 F1 R1 hbu C1 hno hfo h256 htot
  go_wp2_with fail
  refine (hpw _ _ _ _ _ _ _ _ _).mono ?_
  rintro e w3 ⟨v3, rfl, R3, F3⟩
  clear y9_0 y9_1 y9_2 y9_3 y9_4 y9_5 y9_6 y9_7 y9_8 y9_9 t0 t1 hgt2 hpw
  obtain ⟨lv, hlv⟩ : ∃ lv, (wireOf 5 fi sn O).length = lv := ⟨_, rfl⟩
  obtain ⟨AV, kV, rfl, hlk, hbin⟩ := R3.outn hlv
  have hrd := pd_read5 w3 AV lv kV fi sn O hbin.bin hlv hlk H2.out.2.2.2.2.1 H2.out.2.2.2.2.2.2 hfi hsn1 H2.out.2.2.2.2.2.1
  have M3 := H2.out.1.frmN F3
  have y9_0 : w3.cell? ⟨g9, 0, none⟩ = some (.int .i64 1) := M3.c.cell 0
  have y9_1 : w3.cell? ⟨g9, 1, none⟩ = some (.int .i64 5) := M3.c.cell 1
  have y9_2 : w3.cell? ⟨g9, 2, none⟩ = some (.int .i64 16) := M3.c.cell 2
  have y9_3 : w3.cell? ⟨g9, 3, none⟩ = some (.int .i64 4) := M3.c.cell 3
  have y9_4 : w3.cell? ⟨g9, 4, none⟩ = some (.int .i64 0) := M3.c.cell 4
  have y9_5 : w3.cell? ⟨g9, 5, none⟩ = some (.int .i64 0) := M3.c.cell 5
  have y9_6 : w3.cell? ⟨g9, 6, none⟩ = some (.int .i64 0) := M3.c.cell 6
  have y9_7 : w3.cell? ⟨g9, 7, none⟩ = some (.int .i64 0) := M3.c.cell 7
  have y9_8 : w3.cell? ⟨g9, 8, none⟩ = some (.int .i64 0) := M3.c.cell 8
  have y9_9 : w3.cell? ⟨g9, 9, none⟩ = some (.int .i64 5000) := M3.c.cell 9
  have H3 := Lib.hid (And.intro M3 (H2.out.2.1.frmN F3))
  clear M3 F3 R3 hlv hlk hbin
  go_wp2_with fail
  refine hrd.mono ?_
  rintro e w4 ⟨v4, rfl, R4, F4⟩
  clear y9_0 y9_1 y9_2 y9_3 y9_4 y9_5 y9_6 y9_7 y9_8 y9_9 hrd
  obtain ⟨AP, kP, rfl, -⟩ := R4.out H2.out.2.2.2.1
  have F5 := (Frm.refl No w4).alloc (.cells #[.int .i64 1, .slice none 0 0, .int .i64 (fi : Int), .int .i64 (sn : Int), .slice AP no kP, .bool false, .int .i64 0, .int .i64 0, .bool false, .bool false, .int .i64 0, .slice none 0 0, .int .i64 0, .slice none 0 0] 56)
  have B5 := Blk.new w4 #[.int .i64 1, .slice none 0 0, .int .i64 (fi : Int), .int .i64 (sn : Int), .slice AP no kP, .bool false, .int .i64 0, .int .i64 0, .bool false, .bool false, .int .i64 0, .slice none 0 0, .int .i64 0, .slice none 0 0] 56
  have M5 := (H3.out.1.frmN F4).frmN F5
  have G5 := (H3.out.2.frmN F4).frmN F5
  have R5 := (R4.frmN F5).lower (Nat.zero_le _)
  obtain ⟨j1, j2, j3, j4, j5⟩ := glue_whole H.out.2.2.1.wt H2.out.2.2.1 0
  have hst : gStart (hOf T tk) 0 false = ⟨hOf T tk, 0, []⟩ := by unfold gStart; simp
  have hput := put_is _ gw (hOf T tk) 0 fi AP no kP O false M5.g (by decide) (by decide) R5 H2.out.2.2.2.1 (by rw [← H2.out.2.2.2.1]; exact H2.out.2.2.2.2.1.1) (by rw [← H2.out.2.2.2.1]; exact H2.out.2.2.2.2.1.2.1) (fun b hb => (H2.out.2.2.2.2.1.2.2 b hb).1) hfi (fun q hq => by rw [hst]; exact j4 q (by rw [H2.out.2.2.2.1]; exact hq))
  rw [hst] at hput
  rw [H2.out.2.2.2.1] at j1 j2 j3
  obtain ⟨OL, hOL⟩ : ∃ OL, (gPut fi O ⟨hOf T tk, 0, []⟩ no).o = OL := ⟨_, rfl⟩
  obtain ⟨nl, hnl⟩ : ∃ nl, OL.length = nl := ⟨_, rfl⟩
  rw [j1, j2, hOL] at hput
  rw [hOL] at j3
  have H5 := Lib.hid (And.intro M5 (And.intro G5 (And.intro R5 (And.intro j3 (And.intro hOL (And.intro hnl B5))))))
  clear M5 G5 R5 j1 j2 j3 j4 j5 hst hOL hnl F5 B5 F4 R4
  go_wp2_with fail
  refine hput.mono ?_
  rintro e w6 ⟨v6, rfl, R6, G6, F6⟩
  have nt6 : ∀ t, t ≠ 72 → ∀ x cs, Blk _ x cs t → ¬ (x = gw) := fun t ht x cs hx e => by
    subst e
    obtain ⟨cs', hb⟩ := H5.out.1.g.blk
    exact Blk.ne hx hb ht rfl
  obtain ⟨AL, kL, rfl, -⟩ := R6.out H5.out.2.2.2.2.2.1
  have M6 := H5.out.1.glued H5.out.1.g.blk H5.out.1.lw F6 G6
  have Gp6 := H5.out.2.1.frm F6 (fun e => H.out.2.2.2.2.2.2.2.2.1 e.symm) (nt6 5 (by decide))
  have R6O := H5.out.2.2.1.frm F6 (nt6 24 (by decide)) (nt6 5 (by decide))
  have B6 := F6.blk H5.out.2.2.2.2.2.2 (nt6 56 (by decide) _ _ H5.out.2.2.2.2.2.2)
  obtain ⟨gu, hgu⟩ : ∃ gu, w4.heap.size = gu := ⟨_, rfl⟩
  rw [hgu] at B6 ⊢
  have hnx := H.out.2.2.1.next H2.out.2.2.1 H5.out.2.2.2.1 H5.out.2.2.2.2.2.1
  have H6 := Lib.hid (And.intro M6 (And.intro Gp6 (And.intro R6O (And.intro B6 (And.intro hnx R6)))))
  clear M6 Gp6 R6O B6 hnx R6 F6 G6 nt6 hput hgu
  go_upto_block 4 with fail
  refine cmp_walk (n := n) (w := w6) (nl := nl) (x2 := .slice (some ad2) n2 k2) (x3 := .slice A3 n3 k3) (x9 := .pointer (some ⟨g9, 0, none⟩)) (x10 := .pointer (some ⟨gq, 0, none⟩)) (x16 := .pointer (some ⟨gw, 0, none⟩)) (x17 := .pointer (some ⟨gp, 0, none⟩)) (x19 := .int .i64 (q0 : Int)) (x20 := .bool gap) (x21 := .int .i64 (i : Int)) (x26 := .pointer (some ⟨gu, 0, none⟩)) rfl rfl rfl rfl rfl rfl rfl rfl rfl rfl rfl rfl rfl rfl rfl rfl (by rw [← H.out.2.1]; exact H6.out.2.2.2.2.1.2.1) (by rw [← H.out.2.1]; have := H.out.2.2.1.f20; omega)
    (fun wx Fx k hk => ⟨OL.getD k [], by rw [← H6.out.2.2.2.2.1.2.2 k hk]; exact (H6.out.1.k.frmN Fx).reads (H6.out.1.frm.thenN Fx) (by have := H6.out.2.2.2.2.1.2.1; omega), (H6.out.2.2.2.2.2.frmN Fx).reads (by rw [H5.out.2.2.2.2.2.1]; exact hk)⟩) (fun c a d v w h => hP c a d v w h) ?_
  intro a' wx Fx hs' hd' e2 e3 e9 e10 e12 e16 e17 e18 e19 e20 e21 e26 e28
  refine (by assumption : ∀ (a : Act) (w : World), Code.wp Try.prog _ _ a w → _) _ _ (lost_walk (n := n + nl) hs' hd' e2 e3 e9 e10 e12 e16 e17 e18 e19 e20 e21 e26 e28 (H6.out.1.frmN Fx) H.out.2.1 H6.out.2.2.2.2.1.1 H2.out.2.2.1 H.out.2.2.1.wt (H6.out.2.1.frmN Fx) H.out.2.2.2.2.1 H.out.2.2.2.2.2.1 hi H.out.2.2.2.2.2.2.1 (Fx.blk H6.out.2.2.2.1 (fun h => h)) rfl rfl (H6.out.2.2.1.frmN Fx) H2.out.2.2.2.1 ?hol (by omega) ?hk (by have := H.out.2.2.2.2.2.2.2.1; omega) H.out.2.2.2.2.2.2.2.2.1 H.out.2.2.2.2.2.2.2.2.2.1 H.out.2.2.2.2.2.2.2.2.2.2.2 (fun c a d v w h => hP c a d v w h) ?hq)
  case hol => rw [H2.out.2.2.2.1, H5.out.2.2.2.2.1]; exact H5.out.2.2.2.2.2.1
  case hk =>
    intro k hk
    rw [Nat.add_sub_cancel, H2.out.2.2.2.1, H5.out.2.2.2.2.1]
    exact H6.out.2.2.2.2.1.2.2 k hk
  case hq =>
    intro e a'' wy hp' lp' q gap' he M' G' l0 l1 hh hq hs2 hd2 m2 m3 m9 m10 m12 m16 m17 m18 m19 m20 m21
    exact HQ.out e a'' wy T' tk' (n + nl) hp' lp' q gap' he M' H6.out.2.2.2.2.1.1 G' l0 l1 hh hq hs2 hd2 m2 m3 m9 m10 m12 m16 m17 m18 m19 m20 m21
set_option maxRecDepth 100000 in
set_option maxHeartbeats 16000000 in
theorem round_walk10 {Q : Exit → Act → World → Prop} {a : Act} {w wr : World} {A2 A3 AK : Option Addr} {n2 k2 n3 k3 nk kK g9 gq gw gp n q0 tk i : Nat} {ls lp : Int} {gap : Bool} {F : List Fl} {T : List Tx} {hp : Option (List Nat)} {z2 z3 : List Int}
    (hs : a.tmps.size = 286) (hd : a.defers = []) (e2 : a.tmps.getD 2 undef = (.slice A2 n2 k2)) (e3 : a.tmps.getD 3 undef = (.slice A3 n3 k3)) (e9 : a.tmps.getD 9 undef = (.pointer (some ⟨g9, 0, none⟩))) (e10 : a.tmps.getD 10 undef = (.pointer (some ⟨gq, 0, none⟩))) (e12 : a.tmps.getD 12 undef = (.slice AK nk kK)) (e16 : a.tmps.getD 16 undef = (.pointer (some ⟨gw, 0, none⟩))) (e17 : a.tmps.getD 17 undef = (.pointer (some ⟨gp, 0, none⟩))) (e18 : a.tmps.getD 18 undef = (.int .i64 (n : Int))) (e19 : a.tmps.getD 19 undef = (.int .i64 (q0 : Int))) (e20 : a.tmps.getD 20 undef = (.bool gap)) (e21 : a.tmps.getD 21 undef = (.int .i64 (i : Int)))
    (hM : MC w wr g9 10 gq gw (.slice AK nk kK) F T tk ls (hOf T tk)) (hF : F.length = nk) (hPL : PL F T tk n) (hT : 1 ≤ T.length)
    (hG : IsG wr gp hp lp) (lp0 : 0 ≤ lp) (lp1 : lp ≤ 30 * (i : Int)) (hi : i < 3000) (hhp : gap = false → hp = none ∨ hp = hOf T tk)
    (hat : q0 ≤ n) (ne : gw ≠ gp) (hlp : w.heap.size ≤ gp) (h2 : Ints w .u16 A2 n2 z2) (n21 : 1 ≤ n2) (h3 : Ints w .u8 A3 n3 z3)
    (hP : ∀ c (a : Act) (d : Nat) v w, Q (.panic c) (a.put (some d) v) w → Q (.panic c) a w)
    (hQ : ∀ e a' wx T' tk' n' hp' lp' q gap', (e = .normal ∨ e = .exit 3) → MC w wx g9 10 gq gw (.slice AK nk kK) F T' tk' ls (hOf T' tk') → PL F T' tk' n' → IsG wx gp hp' lp' → 0 ≤ lp' → lp' ≤ 30 * ((i + 1 : Nat) : Int) → (gap' = false → hp' = none ∨ hp' = hOf T' tk') → q ≤ n' → a'.tmps.size = 286 → a'.defers = [] → a'.tmps.getD 2 undef = (.slice A2 n2 k2) → a'.tmps.getD 3 undef = (.slice A3 n3 k3) → a'.tmps.getD 9 undef = (.pointer (some ⟨g9, 0, none⟩)) → a'.tmps.getD 10 undef = (.pointer (some ⟨gq, 0, none⟩)) → a'.tmps.getD 12 undef = (.slice AK nk kK) → a'.tmps.getD 16 undef = (.pointer (some ⟨gw, 0, none⟩)) → a'.tmps.getD 17 undef = (.pointer (some ⟨gp, 0, none⟩)) → a'.tmps.getD 18 undef = (.int .i64 (n' : Int)) → a'.tmps.getD 19 undef = (.int .i64 (q : Int)) → a'.tmps.getD 20 undef = (.bool gap') → a'.tmps.getD 21 undef = (.int .i64 (i : Int)) → Q e a' wx) :
    Code.wp Try.prog (cL (cL (cR (cL (cL (cR (cL (cR (cR (cR (cR (cR (cR (cR (cR (cR (cR (Try.f3.body.getD .skip)))))))))))))))))) Q a wr := by
  obtain ⟨j, hj⟩ : ∃ j, i % n2 = j := ⟨_, rfl⟩
  have hjn : j < n2 := by rw [← hj]; exact Nat.mod_lt _ (by omega)
  have h63 := h2.2.1
  obtain ⟨ad2, rfl, hb2, hc2, hz2⟩ := h2.at_ hjn
  obtain ⟨z, hz⟩ : ∃ z, z2.getD j 0 = z := ⟨_, rfl⟩
  rw [hz] at hc2 hz2
  have y2 : wr.cell? (ad2.add j) = some (.int .u16 z) := by rw [← hc2]; exact World.cell?_of_block (hM.frm.block _ (by rw [block_add]; exact hb2) (fun h => h))
  have hzr : 0 ≤ z ∧ z ≤ 65535 := u16_of hz2
  have HQ := Lib.hid hQ
  have H := Lib.hid (And.intro hM (And.intro hF (And.intro hPL (And.intro hG (And.intro lp0 (And.intro lp1 (And.intro hhp (And.intro hat (And.intro ne (And.intro hlp (And.intro h2 h3)))))))))))
  clear hQ hc2 hz2 hz hM hF hPL hG lp0 lp1 hhp hat ne hlp h2 h3 hb2
  obtain ⟨U, rfl⟩ := fr3r hs hd e2 e3 e9 e10 e12 e16 e17 e18 e19 e20 e21
  clear hs hd e2 e3 e9 e10 e12 e16 e17 e18 e19 e20 e21
  unfold Try.f3
  dsimp only [cL, cR, Option.getD_some]
  obtain ⟨room, hroom⟩ : ∃ room : Nat, 1 + z % 300 = (room : Int) := ⟨(1 + z % 300).toNat, by omega⟩
  have hr1 : 1 ≤ room ∧ room ≤ 300 := by omega
  have htl := tl_le H.out.2.2.1.wt
  have htl2 : tl T ≤ 64000 ∧ tk ≤ 1000 := htl.resolve_right (fun e => by rw [e] at hT; exact absurd hT (by decide))
  obtain ⟨byt, hbyt⟩ : ∃ byt : Int, ((tl T : Nat) : Int) - (tk : Nat) = byt := ⟨_, rfl⟩
  have hbu := build_is wr gq room 20000 T tk ls byt (by rw [← hbyt]; exact H.out.1.q) (by decide) H.out.2.2.1.wt hT hr1.1 (by omega) (by omega) (by omega)
  have HR := Lib.hid (And.intro hr1 (And.intro hbyt hT))
  clear hr1 htl htl2 hbyt hT
  go_wp2_with fail
  refine hbu.mono ?_
  rintro e w1 ⟨fi, no, O, T', tk', AO, kO, AD, nD, kD, rfl, hno, R1, C1, Q1, F1⟩
  have hby := C1.byt H.out.2.2.1.wt
  have M1 := H.out.1.built Q1 (by have := HR.out.2.1; omega) F1
  have nt1 : ∀ t, t ≠ 64 → ∀ x cs, Blk wr x cs t → ¬ (x = gq) := fun t ht x cs hx e => by
    subst e
    obtain ⟨cs', hb⟩ := H.out.1.q.blk
    exact Blk.ne hx hb ht rfl
  have G1 := H.out.2.2.2.1.frm F1 (by obtain ⟨cs, hg⟩ := H.out.2.2.2.1.blk; exact nt1 72 (by decide) _ _ hg) (nt1 5 (by decide))
  have B2 := Blk.new w1 #[.int .i64 (fi : Int), .slice AO no kO, .slice AD nD kD] 42
  have F2 := (Frm.refl No w1).alloc (.cells #[.int .i64 (fi : Int), .slice AO no kO, .slice AD nD kD] 42)
  obtain ⟨w2, hw2⟩ : ∃ w2, w1.alloc (.cells #[.int .i64 (fi : Int), .slice AO no kO, .slice AD nD kD] 42) = w2 := ⟨_, rfl⟩
  obtain ⟨gt, hgt⟩ : ∃ gt, w1.heap.size = gt := ⟨_, rfl⟩
  rw [hw2] at B2 F2
  rw [hgt] at B2
  have hfo := C1.fld H.out.2.2.1.wt
  have h256 := C1.lt (H.out.2.2.1.lt fun f hf => (H.out.1.k.rd f hf).2)
  have htot : tot O ≤ 3000 := by obtain ⟨m, k, -, -, -, -, -, -, -, -, hr, -⟩ := C1; have := HR.out.1; omega
  obtain ⟨sn, hsn⟩ : ∃ sn : Nat, (i : Int) % 32 = (sn : Int) := ⟨i % 32, by omega⟩
  have hsn1 : sn ≤ 31 := by omega
  have hfi := C1.fi3
  have hpw := fun z0 z1 z2 z3 z4 z5 z6 z7 z8 => pd_write10 w2 fi sn AO no kO _ O z0 z1 z2 z3 z4 z5 z6 z7 z8 (R1.frmN F2) hno hfo htot hfi hsn1 h256
  have y9_0 : w2.cell? ⟨g9, 0, none⟩ = some (.int .i64 1) := (F2.blk M1.c (fun h => h)).cell 0
  have y9_1 : w2.cell? ⟨g9, 1, none⟩ = some (.int .i64 10) := (F2.blk M1.c (fun h => h)).cell 1
  have y9_2 : w2.cell? ⟨g9, 2, none⟩ = some (.int .i64 16) := (F2.blk M1.c (fun h => h)).cell 2
  have y9_3 : w2.cell? ⟨g9, 3, none⟩ = some (.int .i64 4) := (F2.blk M1.c (fun h => h)).cell 3
  have y9_4 : w2.cell? ⟨g9, 4, none⟩ = some (.int .i64 0) := (F2.blk M1.c (fun h => h)).cell 4
  have y9_5 : w2.cell? ⟨g9, 5, none⟩ = some (.int .i64 0) := (F2.blk M1.c (fun h => h)).cell 5
  have y9_6 : w2.cell? ⟨g9, 6, none⟩ = some (.int .i64 0) := (F2.blk M1.c (fun h => h)).cell 6
  have y9_7 : w2.cell? ⟨g9, 7, none⟩ = some (.int .i64 0) := (F2.blk M1.c (fun h => h)).cell 7
  have y9_8 : w2.cell? ⟨g9, 8, none⟩ = some (.int .i64 0) := (F2.blk M1.c (fun h => h)).cell 8
  have y9_9 : w2.cell? ⟨g9, 9, none⟩ = some (.int .i64 5000) := (F2.blk M1.c (fun h => h)).cell 9
  have t0 : w2.cell? ⟨gt, 0, none⟩ = some (.int .i64 (fi : Int)) := B2.cell 0
  have t1 : w2.cell? ⟨gt, 1, none⟩ = some (.slice AO no kO) := B2.cell 1
  have hgt2 := B2.lt
  have H2 := Lib.hid (And.intro (M1.frmN F2) (And.intro (G1.frmN F2) (And.intro C1 (And.intro hno (And.intro hfo (And.intro h256 htot))))))
  clear hby M1 nt1 G1 B2 F2 Q1 F1 R1 hbu C1 hno hfo h256 htot
  go_wp2_with fail
  refine (hpw _ _ _ _ _ _ _ _ _).mono ?_
  rintro e w3 ⟨v3, rfl, R3, F3⟩
  clear y9_0 y9_1 y9_2 y9_3 y9_4 y9_5 y9_6 y9_7 y9_8 y9_9 t0 t1 hgt2 hpw
  obtain ⟨lv, hlv⟩ : ∃ lv, (wireOf 10 fi sn O).length = lv := ⟨_, rfl⟩
  obtain ⟨AV, kV, rfl, hlk, hbin⟩ := R3.outn hlv
  have hrd := pd_read10 w3 AV lv kV fi sn O hbin.bin hlv hlk H2.out.2.2.2.2.1 H2.out.2.2.2.2.2.2 hfi hsn1 H2.out.2.2.2.2.2.1
  have M3 := H2.out.1.frmN F3
  have y9_0 : w3.cell? ⟨g9, 0, none⟩ = some (.int .i64 1) := M3.c.cell 0
  have y9_1 : w3.cell? ⟨g9, 1, none⟩ = some (.int .i64 10) := M3.c.cell 1
  have y9_2 : w3.cell? ⟨g9, 2, none⟩ = some (.int .i64 16) := M3.c.cell 2
  have y9_3 : w3.cell? ⟨g9, 3, none⟩ = some (.int .i64 4) := M3.c.cell 3
  have y9_4 : w3.cell? ⟨g9, 4, none⟩ = some (.int .i64 0) := M3.c.cell 4
  have y9_5 : w3.cell? ⟨g9, 5, none⟩ = some (.int .i64 0) := M3.c.cell 5
  have y9_6 : w3.cell? ⟨g9, 6, none⟩ = some (.int .i64 0) := M3.c.cell 6
  have y9_7 : w3.cell? ⟨g9, 7, none⟩ = some (.int .i64 0) := M3.c.cell 7
  have y9_8 : w3.cell? ⟨g9, 8, none⟩ = some (.int .i64 0) := M3.c.cell 8
  have y9_9 : w3.cell? ⟨g9, 9, none⟩ = some (.int .i64 5000) := M3.c.cell 9
  have H3 := Lib.hid (And.intro M3 (H2.out.2.1.frmN F3))
  clear M3 F3 R3 hlv hlk hbin
  go_wp2_with fail
  refine hrd.mono ?_
  rintro e w4 ⟨v4, rfl, R4, F4⟩
  clear y9_0 y9_1 y9_2 y9_3 y9_4 y9_5 y9_6 y9_7 y9_8 y9_9 hrd
  obtain ⟨AP, kP, rfl, -⟩ := R4.out H2.out.2.2.2.1
  have F5 := (Frm.refl No w4).alloc (.cells #[.int .i64 1, .slice none 0 0, .int .i64 (fi : Int), .int .i64 (sn : Int), .slice AP no kP, .bool false, .int .i64 0, .int .i64 0, .bool false, .bool false, .int .i64 0, .slice none 0 0, .int .i64 0, .slice none 0 0] 56)
  have B5 := Blk.new w4 #[.int .i64 1, .slice none 0 0, .int .i64 (fi : Int), .int .i64 (sn : Int), .slice AP no kP, .bool false, .int .i64 0, .int .i64 0, .bool false, .bool false, .int .i64 0, .slice none 0 0, .int .i64 0, .slice none 0 0] 56
  have M5 := (H3.out.1.frmN F4).frmN F5
  have G5 := (H3.out.2.frmN F4).frmN F5
  have R5 := (R4.frmN F5).lower (Nat.zero_le _)
  obtain ⟨j1, j2, j3, j4, j5⟩ := glue_whole H.out.2.2.1.wt H2.out.2.2.1 0
  have hst : gStart (hOf T tk) 0 false = ⟨hOf T tk, 0, []⟩ := by unfold gStart; simp
  have hput := put_is _ gw (hOf T tk) 0 fi AP no kP O false M5.g (by decide) (by decide) R5 H2.out.2.2.2.1 (by rw [← H2.out.2.2.2.1]; exact H2.out.2.2.2.2.1.1) (by rw [← H2.out.2.2.2.1]; exact H2.out.2.2.2.2.1.2.1) (fun b hb => (H2.out.2.2.2.2.1.2.2 b hb).1) hfi (fun q hq => by rw [hst]; exact j4 q (by rw [H2.out.2.2.2.1]; exact hq))
  rw [hst] at hput
  rw [H2.out.2.2.2.1] at j1 j2 j3
  obtain ⟨OL, hOL⟩ : ∃ OL, (gPut fi O ⟨hOf T tk, 0, []⟩ no).o = OL := ⟨_, rfl⟩
  obtain ⟨nl, hnl⟩ : ∃ nl, OL.length = nl := ⟨_, rfl⟩
  rw [j1, j2, hOL] at hput
  rw [hOL] at j3
  have H5 := Lib.hid (And.intro M5 (And.intro G5 (And.intro R5 (And.intro j3 (And.intro hOL (And.intro hnl B5))))))
  clear M5 G5 R5 j1 j2 j3 j4 j5 hst hOL hnl F5 B5 F4 R4
  go_wp2_with fail
  refine hput.mono ?_
  rintro e w6 ⟨v6, rfl, R6, G6, F6⟩
  have nt6 : ∀ t, t ≠ 72 → ∀ x cs, Blk _ x cs t → ¬ (x = gw) := fun t ht x cs hx e => by
    subst e
    obtain ⟨cs', hb⟩ := H5.out.1.g.blk
    exact Blk.ne hx hb ht rfl
  obtain ⟨AL, kL, rfl, -⟩ := R6.out H5.out.2.2.2.2.2.1
  have M6 := H5.out.1.glued H5.out.1.g.blk H5.out.1.lw F6 G6
  have Gp6 := H5.out.2.1.frm F6 (fun e => H.out.2.2.2.2.2.2.2.2.1 e.symm) (nt6 5 (by decide))
  have R6O := H5.out.2.2.1.frm F6 (nt6 24 (by decide)) (nt6 5 (by decide))
  have B6 := F6.blk H5.out.2.2.2.2.2.2 (nt6 56 (by decide) _ _ H5.out.2.2.2.2.2.2)
  obtain ⟨gu, hgu⟩ : ∃ gu, w4.heap.size = gu := ⟨_, rfl⟩
  rw [hgu] at B6 ⊢
  have hnx := H.out.2.2.1.next H2.out.2.2.1 H5.out.2.2.2.1 H5.out.2.2.2.2.2.1
  have H6 := Lib.hid (And.intro M6 (And.intro Gp6 (And.intro R6O (And.intro B6 (And.intro hnx R6)))))
  clear M6 Gp6 R6O B6 hnx R6 F6 G6 nt6 hput hgu
  go_upto_block 4 with fail
  refine cmp_walk (n := n) (w := w6) (nl := nl) (x2 := .slice (some ad2) n2 k2) (x3 := .slice A3 n3 k3) (x9 := .pointer (some ⟨g9, 0, none⟩)) (x10 := .pointer (some ⟨gq, 0, none⟩)) (x16 := .pointer (some ⟨gw, 0, none⟩)) (x17 := .pointer (some ⟨gp, 0, none⟩)) (x19 := .int .i64 (q0 : Int)) (x20 := .bool gap) (x21 := .int .i64 (i : Int)) (x26 := .pointer (some ⟨gu, 0, none⟩)) rfl rfl rfl rfl rfl rfl rfl rfl rfl rfl rfl rfl rfl rfl rfl rfl (by rw [← H.out.2.1]; exact H6.out.2.2.2.2.1.2.1) (by rw [← H.out.2.1]; have := H.out.2.2.1.f20; omega)
    (fun wx Fx k hk => ⟨OL.getD k [], by rw [← H6.out.2.2.2.2.1.2.2 k hk]; exact (H6.out.1.k.frmN Fx).reads (H6.out.1.frm.thenN Fx) (by have := H6.out.2.2.2.2.1.2.1; omega), (H6.out.2.2.2.2.2.frmN Fx).reads (by rw [H5.out.2.2.2.2.2.1]; exact hk)⟩) (fun c a d v w h => hP c a d v w h) ?_
  intro a' wx Fx hs' hd' e2 e3 e9 e10 e12 e16 e17 e18 e19 e20 e21 e26 e28
  refine (by assumption : ∀ (a : Act) (w : World), Code.wp Try.prog _ _ a w → _) _ _ (lost_walk (n := n + nl) hs' hd' e2 e3 e9 e10 e12 e16 e17 e18 e19 e20 e21 e26 e28 (H6.out.1.frmN Fx) H.out.2.1 H6.out.2.2.2.2.1.1 H2.out.2.2.1 H.out.2.2.1.wt (H6.out.2.1.frmN Fx) H.out.2.2.2.2.1 H.out.2.2.2.2.2.1 hi H.out.2.2.2.2.2.2.1 (Fx.blk H6.out.2.2.2.1 (fun h => h)) rfl rfl (H6.out.2.2.1.frmN Fx) H2.out.2.2.2.1 ?hol (by omega) ?hk (by have := H.out.2.2.2.2.2.2.2.1; omega) H.out.2.2.2.2.2.2.2.2.1 H.out.2.2.2.2.2.2.2.2.2.1 H.out.2.2.2.2.2.2.2.2.2.2.2 (fun c a d v w h => hP c a d v w h) ?hq)
  case hol => rw [H2.out.2.2.2.1, H5.out.2.2.2.2.1]; exact H5.out.2.2.2.2.2.1
  case hk =>
    intro k hk
    rw [Nat.add_sub_cancel, H2.out.2.2.2.1, H5.out.2.2.2.2.1]
    exact H6.out.2.2.2.2.1.2.2 k hk
  case hq =>
    intro e a'' wy hp' lp' q gap' he M' G' l0 l1 hh hq hs2 hd2 m2 m3 m9 m10 m12 m16 m17 m18 m19 m20 m21
    exact HQ.out e a'' wy T' tk' (n + nl) hp' lp' q gap' he M' H6.out.2.2.2.2.1.1 G' l0 l1 hh hq hs2 hd2 m2 m3 m9 m10 m12 m16 m17 m18 m19 m20 m21
end Go.Proofs.Ytccaaldfccgncaa.A
