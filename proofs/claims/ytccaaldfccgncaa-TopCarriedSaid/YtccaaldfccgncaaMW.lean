/- TopCarried: the loops that look for the texts that the part glue told. -/
import Derived.Test.YtccaaldfccgncaaCW
namespace Go.Proofs.Ytccaaldfccgncaa.A
open Go.RowKit Go.Proofs.Ytccaaldfccgncaa.K
set_option linter.unusedVariables false
set_option linter.unusedSimpArgs false

set_option maxRecDepth 100000 in
theorem fr3m {a : Act} {x2 x3 x9 x10 x12 x16 x17 x18 x19 x20 x21 x31 x33 : Value} (hs : a.tmps.size = 286) (hd : a.defers = []) (h2 : a.tmps.getD 2 undef = x2) (h3 : a.tmps.getD 3 undef = x3) (h9 : a.tmps.getD 9 undef = x9) (h10 : a.tmps.getD 10 undef = x10) (h12 : a.tmps.getD 12 undef = x12) (h16 : a.tmps.getD 16 undef = x16) (h17 : a.tmps.getD 17 undef = x17) (h18 : a.tmps.getD 18 undef = x18) (h19 : a.tmps.getD 19 undef = x19) (h20 : a.tmps.getD 20 undef = x20) (h21 : a.tmps.getD 21 undef = x21) (h31 : a.tmps.getD 31 undef = x31) (h33 : a.tmps.getD 33 undef = x33) : ∃ U : Nat → Value, a = ⟨#[U 0, U 1, x2, x3, U 4, U 5, U 6, U 7, U 8, x9, x10, U 11, x12, U 13, U 14, U 15, x16, x17, x18, x19, x20, x21, U 22, U 23, U 24, U 25, U 26, U 27, U 28, U 29, U 30, x31, U 32, x33, U 34, U 35, U 36, U 37, U 38, U 39, U 40, U 41, U 42, U 43, U 44, U 45, U 46, U 47, U 48, U 49, U 50, U 51, U 52, U 53, U 54, U 55, U 56, U 57, U 58, U 59, U 60, U 61, U 62, U 63, U 64, U 65, U 66, U 67, U 68, U 69, U 70, U 71, U 72, U 73, U 74, U 75, U 76, U 77, U 78, U 79, U 80, U 81, U 82, U 83, U 84, U 85, U 86, U 87, U 88, U 89, U 90, U 91, U 92, U 93, U 94, U 95, U 96, U 97, U 98, U 99, U 100, U 101, U 102, U 103, U 104, U 105, U 106, U 107, U 108, U 109, U 110, U 111, U 112, U 113, U 114, U 115, U 116, U 117, U 118, U 119, U 120, U 121, U 122, U 123, U 124, U 125, U 126, U 127, U 128, U 129, U 130, U 131, U 132, U 133, U 134, U 135, U 136, U 137, U 138, U 139, U 140, U 141, U 142, U 143, U 144, U 145, U 146, U 147, U 148, U 149, U 150, U 151, U 152, U 153, U 154, U 155, U 156, U 157, U 158, U 159, U 160, U 161, U 162, U 163, U 164, U 165, U 166, U 167, U 168, U 169, U 170, U 171, U 172, U 173, U 174, U 175, U 176, U 177, U 178, U 179, U 180, U 181, U 182, U 183, U 184, U 185, U 186, U 187, U 188, U 189, U 190, U 191, U 192, U 193, U 194, U 195, U 196, U 197, U 198, U 199, U 200, U 201, U 202, U 203, U 204, U 205, U 206, U 207, U 208, U 209, U 210, U 211, U 212, U 213, U 214, U 215, U 216, U 217, U 218, U 219, U 220, U 221, U 222, U 223, U 224, U 225, U 226, U 227, U 228, U 229, U 230, U 231, U 232, U 233, U 234, U 235, U 236, U 237, U 238, U 239, U 240, U 241, U 242, U 243, U 244, U 245, U 246, U 247, U 248, U 249, U 250, U 251, U 252, U 253, U 254, U 255, U 256, U 257, U 258, U 259, U 260, U 261, U 262, U 263, U 264, U 265, U 266, U 267, U 268, U 269, U 270, U 271, U 272, U 273, U 274, U 275, U 276, U 277, U 278, U 279, U 280, U 281, U 282, U 283, U 284, U 285], []⟩ := by
  have e := act_frame a 286 hs hd
  obtain ⟨f, hf⟩ : ∃ f : Nat → Value, (fun i => a.tmps.getD i undef) = f := ⟨_, rfl⟩
  rw [hf, show ((List.range 286).map f).toArray = #[f 0, f 1, f 2, f 3, f 4, f 5, f 6, f 7, f 8, f 9, f 10, f 11, f 12, f 13, f 14, f 15, f 16, f 17, f 18, f 19, f 20, f 21, f 22, f 23, f 24, f 25, f 26, f 27, f 28, f 29, f 30, f 31, f 32, f 33, f 34, f 35, f 36, f 37, f 38, f 39, f 40, f 41, f 42, f 43, f 44, f 45, f 46, f 47, f 48, f 49, f 50, f 51, f 52, f 53, f 54, f 55, f 56, f 57, f 58, f 59, f 60, f 61, f 62, f 63, f 64, f 65, f 66, f 67, f 68, f 69, f 70, f 71, f 72, f 73, f 74, f 75, f 76, f 77, f 78, f 79, f 80, f 81, f 82, f 83, f 84, f 85, f 86, f 87, f 88, f 89, f 90, f 91, f 92, f 93, f 94, f 95, f 96, f 97, f 98, f 99, f 100, f 101, f 102, f 103, f 104, f 105, f 106, f 107, f 108, f 109, f 110, f 111, f 112, f 113, f 114, f 115, f 116, f 117, f 118, f 119, f 120, f 121, f 122, f 123, f 124, f 125, f 126, f 127, f 128, f 129, f 130, f 131, f 132, f 133, f 134, f 135, f 136, f 137, f 138, f 139, f 140, f 141, f 142, f 143, f 144, f 145, f 146, f 147, f 148, f 149, f 150, f 151, f 152, f 153, f 154, f 155, f 156, f 157, f 158, f 159, f 160, f 161, f 162, f 163, f 164, f 165, f 166, f 167, f 168, f 169, f 170, f 171, f 172, f 173, f 174, f 175, f 176, f 177, f 178, f 179, f 180, f 181, f 182, f 183, f 184, f 185, f 186, f 187, f 188, f 189, f 190, f 191, f 192, f 193, f 194, f 195, f 196, f 197, f 198, f 199, f 200, f 201, f 202, f 203, f 204, f 205, f 206, f 207, f 208, f 209, f 210, f 211, f 212, f 213, f 214, f 215, f 216, f 217, f 218, f 219, f 220, f 221, f 222, f 223, f 224, f 225, f 226, f 227, f 228, f 229, f 230, f 231, f 232, f 233, f 234, f 235, f 236, f 237, f 238, f 239, f 240, f 241, f 242, f 243, f 244, f 245, f 246, f 247, f 248, f 249, f 250, f 251, f 252, f 253, f 254, f 255, f 256, f 257, f 258, f 259, f 260, f 261, f 262, f 263, f 264, f 265, f 266, f 267, f 268, f 269, f 270, f 271, f 272, f 273, f 274, f 275, f 276, f 277, f 278, f 279, f 280, f 281, f 282, f 283, f 284, f 285] from rfl] at e
  refine ⟨f, ?_⟩
  have hi : ∀ i, f i = a.tmps.getD i undef := fun i => by rw [← hf]
  rw [e]
  simp only [show f 2 = x2 from (hi 2).trans h2, show f 3 = x3 from (hi 3).trans h3, show f 9 = x9 from (hi 9).trans h9, show f 10 = x10 from (hi 10).trans h10, show f 12 = x12 from (hi 12).trans h12, show f 16 = x16 from (hi 16).trans h16, show f 17 = x17 from (hi 17).trans h17, show f 18 = x18 from (hi 18).trans h18, show f 19 = x19 from (hi 19).trans h19, show f 20 = x20 from (hi 20).trans h20, show f 21 = x21 from (hi 21).trans h21, show f 31 = x31 from (hi 31).trans h31, show f 33 = x33 from (hi 33).trans h33]

set_option maxRecDepth 100000 in
set_option maxHeartbeats 8000000 in
theorem find_walk {Q : Exit → Act → World → Prop} {a : Act} {w : World} {AK AM : Option Addr} {nk kK lm kM n x p q0 : Nat} {K0 : List (List Nat)} {x2 x3 x9 x10 x16 x17 x20 x21 : Value} (hs : a.tmps.size = 286) (hd : a.defers = []) (e2 : a.tmps.getD 2 undef = x2) (e3 : a.tmps.getD 3 undef = x3) (e9 : a.tmps.getD 9 undef = x9) (e10 : a.tmps.getD 10 undef = x10) (e12 : a.tmps.getD 12 undef = (.slice AK nk kK)) (e16 : a.tmps.getD 16 undef = x16) (e17 : a.tmps.getD 17 undef = x17) (e18 : a.tmps.getD 18 undef = (.int .i64 (n : Int))) (e19 : a.tmps.getD 19 undef = (.int .i64 (q0 : Int))) (e20 : a.tmps.getD 20 undef = x20) (e21 : a.tmps.getD 21 undef = x21) (e31 : a.tmps.getD 31 undef = (.slice AM lm kM)) (e33 : a.tmps.getD 33 undef = (.int .i64 (x : Int)))
    (hq0 : q0 ≤ p) (hp : p < n) (hn : n ≤ nk) (hnk : nk ≤ 1000) (hx : x < lm) (hlm : lm ≤ 1000) (hr : ∀ wx, Frm No w wx → (∀ q, q < n → Reads wx AK q (K0.getD q [])) ∧ Reads wx AM x (K0.getD p []))
    (hP : ∀ c (a : Act) (d : Nat) v w, Q (.panic c) (a.put (some d) v) w → Q (.panic c) a w)
    (hQ : ∀ a' wx q, Frm No w wx → q ≤ p → a'.tmps.size = 286 → a'.defers = [] → a'.tmps.getD 2 undef = x2 → a'.tmps.getD 3 undef = x3 → a'.tmps.getD 9 undef = x9 → a'.tmps.getD 10 undef = x10 → a'.tmps.getD 12 undef = (.slice AK nk kK) → a'.tmps.getD 16 undef = x16 → a'.tmps.getD 17 undef = x17 → a'.tmps.getD 18 undef = (.int .i64 (n : Int)) → a'.tmps.getD 19 undef = (.int .i64 (q : Int)) → a'.tmps.getD 20 undef = x20 → a'.tmps.getD 21 undef = x21 → a'.tmps.getD 31 undef = (.slice AM lm kM) → a'.tmps.getD 33 undef = (.int .i64 (x : Int)) → Q .normal a' wx) :
    Code.wp Try.prog (cL (cL (cL (cR (cL (cL (cR (cR (cR (cR (cR (cR (cR (cR (cR (cR (cR (cR (cL (cL (cR (cL (cL (cR (cL (cR (cR (cR (cR (cR (cR (cR (cR (cR (cR (Try.f3.body.getD .skip)))))))))))))))))))))))))))))))))))) Q a w := by
  have HQ := Lib.hid hQ
  have HR := Lib.hid hr
  clear hQ hr
  unfold Try.f3
  dsimp only [cL, cR, Option.getD_some]
  refine wp_block ?_
  refine wp_loop_ghost_k (fun m a' wr => ∃ q : Nat, q ≤ p ∧ m = p - q ∧ a'.tmps.size = 286 ∧ a'.defers = [] ∧ a'.tmps.getD 2 undef = x2 ∧ a'.tmps.getD 3 undef = x3 ∧ a'.tmps.getD 9 undef = x9 ∧ a'.tmps.getD 10 undef = x10 ∧ a'.tmps.getD 12 undef = (.slice AK nk kK) ∧ a'.tmps.getD 16 undef = x16 ∧ a'.tmps.getD 17 undef = x17 ∧ a'.tmps.getD 18 undef = (.int .i64 (n : Int)) ∧ a'.tmps.getD 19 undef = (.int .i64 (q : Int)) ∧ a'.tmps.getD 20 undef = x20 ∧ a'.tmps.getD 21 undef = x21 ∧ a'.tmps.getD 31 undef = (.slice AM lm kM) ∧ a'.tmps.getD 33 undef = (.int .i64 (x : Int)) ∧ Frm No w wr) (p - q0) ⟨q0, hq0, rfl, hs, hd, e2, e3, e9, e10, e12, e16, e17, e18, e19, e20, e21, e31, e33, Frm.refl _ _⟩ ?_
  rintro m a' wr ⟨q, hq, hm, hs', hd', e2', e3', e9', e10', e12', e16', e17', e18', e19', e20', e21', e31', e33', F⟩ J K hJ hK
  obtain ⟨U, rfl⟩ := fr3m hs' hd' e2' e3' e9' e10' e12' e16' e17' e18' e19' e20' e21' e31' e33'
  clear hs' hd' e2' e3' e9' e10' e12' e16' e17' e18' e19' e20' e21' e31' e33' e2 e3 e9 e10 e12 e16 e17 e18 e19 e20 e21 e31 e33 hs hd
  have HF := Lib.hid (And.intro F hm)
  have HJ := Lib.hid hJ
  clear F hm hJ
  obtain ⟨ad1, A1, l1, c1, rfl, y1, z1⟩ := (HR.out wr HF.out.1).1 q (by omega)
  obtain ⟨ad2, A2, l2, c2, rfl, y2, z2⟩ := (HR.out wr HF.out.1).2
  have hqn : (q : Int) < (n : Int) := by omega
  have hqk : (q : Int) < (nk : Int) := by omega
  have h0 : (0 : Int) ≤ (q : Int) := by omega
  have hxm : (x : Int) < (lm : Int) := by omega
  have hx0 : (0 : Int) ≤ (x : Int) := by omega
  have pw : IntKind.i64.wrap ((q : Int) + 1) = (q : Int) + 1 := IntWalk.i64_in _ ⟨by omega, by omega⟩
  obtain ⟨S1, hS1⟩ : ∃ S1, bytesS (K0.getD q []) = S1 := ⟨_, rfl⟩
  obtain ⟨S2, hS2⟩ : ∃ S2, bytesS (K0.getD p []) = S2 := ⟨_, rfl⟩
  have hqp : S1.toList ≠ S2.toList → q ≠ p := fun h e => h (by rw [← hS1, ← hS2, e])
  have HQP := Lib.hid hqp
  rw [hS1] at z1
  rw [hS2] at z2
  clear hS1 hS2 hqp
  cases hb : (S1.toList == S2.toList) with
  | true =>
    go_wp2_with fail
    go_quiet (fail)
    go_wp2_with fail
    refine HQ.out _ _ q (HF.out.1.thenN ((Frm.refl No wr).drewN _)) hq rfl rfl rfl rfl rfl rfl rfl rfl rfl rfl rfl rfl rfl rfl rfl
  | false =>
    have hqp : q ≠ p := HQP.out (by rw [beq_eq_false_iff_ne] at hb; exact hb)
    go_wp2_with fail
    go_quiet (fail)
    go_wp2_with fail
    refine ⟨p - (q + 1), by have := HF.out.2; omega, HJ.out _ _ _ ⟨q + 1, by omega, rfl, rfl, rfl, rfl, rfl, rfl, rfl, rfl, rfl, rfl, rfl, rfl, rfl, rfl, rfl, rfl, ?_⟩⟩
    exact HF.out.1.thenN ((Frm.refl No wr).drewN _)
set_option maxRecDepth 100000 in
set_option maxHeartbeats 8000000 in
theorem match_walk {Q : Exit → Act → World → Prop} {a : Act} {w : World} {AK AM : Option Addr} {nk kK lm kM n q0 : Nat} {K0 : List (List Nat)} {x2 x3 x9 x10 x16 x17 x20 x21 : Value} (hs : a.tmps.size = 286) (hd : a.defers = []) (e2 : a.tmps.getD 2 undef = x2) (e3 : a.tmps.getD 3 undef = x3) (e9 : a.tmps.getD 9 undef = x9) (e10 : a.tmps.getD 10 undef = x10) (e12 : a.tmps.getD 12 undef = (.slice AK nk kK)) (e16 : a.tmps.getD 16 undef = x16) (e17 : a.tmps.getD 17 undef = x17) (e18 : a.tmps.getD 18 undef = (.int .i64 (n : Int))) (e19 : a.tmps.getD 19 undef = (.int .i64 (q0 : Int))) (e20 : a.tmps.getD 20 undef = x20) (e21 : a.tmps.getD 21 undef = x21) (e31 : a.tmps.getD 31 undef = (.slice AM lm kM)) (e33 : a.tmps.getD 33 undef = (.int .i64 0))
    (hq0 : q0 ≤ n - lm) (hln : lm ≤ n) (hn : n ≤ nk) (hnk : nk ≤ 1000) (hr : ∀ wx, Frm No w wx → (∀ q, q < n → Reads wx AK q (K0.getD q [])) ∧ ∀ x, x < lm → Reads wx AM x (K0.getD (n - lm + x) []))
    (hP : ∀ c (a : Act) (d : Nat) v w, Q (.panic c) (a.put (some d) v) w → Q (.panic c) a w)
    (hQ : ∀ a' wx q, Frm No w wx → q ≤ n → a'.tmps.size = 286 → a'.defers = [] → a'.tmps.getD 2 undef = x2 → a'.tmps.getD 3 undef = x3 → a'.tmps.getD 9 undef = x9 → a'.tmps.getD 10 undef = x10 → a'.tmps.getD 12 undef = (.slice AK nk kK) → a'.tmps.getD 16 undef = x16 → a'.tmps.getD 17 undef = x17 → a'.tmps.getD 18 undef = (.int .i64 (n : Int)) → a'.tmps.getD 19 undef = (.int .i64 (q : Int)) → a'.tmps.getD 20 undef = x20 → a'.tmps.getD 21 undef = x21 → a'.tmps.getD 31 undef = (.slice AM lm kM) → Q .normal a' wx) :
    Code.wp Try.prog (cR (cR (cR (cR (cR (cR (cR (cR (cR (cR (cR (cR (cL (cL (cR (cL (cL (cR (cL (cR (cR (cR (cR (cR (cR (cR (cR (cR (cR (Try.f3.body.getD .skip)))))))))))))))))))))))))))))) Q a w := by
  have HQ := Lib.hid hQ
  have HR := Lib.hid hr
  clear hQ hr
  unfold Try.f3
  dsimp only [cL, cR, Option.getD_some]
  refine wp_block ?_
  refine wp_loop_ghost_k (fun m a' wr => ∃ x q : Nat, (x ≤ lm ∧ q ≤ n - lm + x) ∧ m = lm - x ∧ a'.tmps.size = 286 ∧ a'.defers = [] ∧ a'.tmps.getD 2 undef = x2 ∧ a'.tmps.getD 3 undef = x3 ∧ a'.tmps.getD 9 undef = x9 ∧ a'.tmps.getD 10 undef = x10 ∧ a'.tmps.getD 12 undef = (.slice AK nk kK) ∧ a'.tmps.getD 16 undef = x16 ∧ a'.tmps.getD 17 undef = x17 ∧ a'.tmps.getD 18 undef = (.int .i64 (n : Int)) ∧ a'.tmps.getD 19 undef = (.int .i64 (q : Int)) ∧ a'.tmps.getD 20 undef = x20 ∧ a'.tmps.getD 21 undef = x21 ∧ a'.tmps.getD 31 undef = (.slice AM lm kM) ∧ a'.tmps.getD 33 undef = (.int .i64 (x : Int)) ∧ Frm No w wr) lm ⟨0, q0, ⟨Nat.zero_le _, by omega⟩, rfl, hs, hd, e2, e3, e9, e10, e12, e16, e17, e18, e19, e20, e21, e31, e33, Frm.refl _ _⟩ ?_
  rintro m a' wr ⟨x, q, ⟨hx, hq⟩, hm, hs', hd', e2', e3', e9', e10', e12', e16', e17', e18', e19', e20', e21', e31', e33', F⟩ J K hJ hK
  obtain ⟨U, rfl⟩ := fr3m hs' hd' e2' e3' e9' e10' e12' e16' e17' e18' e19' e20' e21' e31' e33'
  clear hs' hd' e2' e3' e9' e10' e12' e16' e17' e18' e19' e20' e21' e31' e33' e2 e3 e9 e10 e12 e16 e17 e18 e19 e20 e21 e31 e33 hs hd
  have HF := Lib.hid (And.intro F hm)
  have HJ := Lib.hid hJ
  clear F hm hJ
  by_cases hxl : x < lm
  · have hxm : (x : Int) < (lm : Int) := by omega
    have HN := Lib.hid (And.intro hxl (And.intro hq (And.intro hq0 hln)))
    go_upto_block 8 with fail
    refine find_walk (K0 := K0) (n := n) (p := n - lm + x) (q0 := q) rfl rfl rfl rfl rfl rfl rfl rfl rfl rfl rfl rfl rfl rfl rfl HN.out.2.1 (by have := HN.out; omega) hn hnk HN.out.1 (by omega) (fun wx Fx => ⟨(HR.out wx (HF.out.1.thenN Fx)).1, (HR.out wx (HF.out.1.thenN Fx)).2 x HN.out.1⟩) (fun c a d v w h => hP c a d v w h) ?_
    rintro a' wx q' F' hq' hs' hd' e2' e3' e9' e10' e12' e16' e17' e18' e19' e20' e21' e31' e33'
    obtain ⟨U', rfl⟩ := fr3m hs' hd' e2' e3' e9' e10' e12' e16' e17' e18' e19' e20' e21' e31' e33'
    clear hs' hd' e2' e3' e9' e10' e12' e16' e17' e18' e19' e20' e21' e31' e33'
    have HF' := Lib.hid (HF.out.1.thenN F')
    have hqn : ((q' : Int) == (n : Int)) = false := by rw [beq_eq_false_iff_ne]; have := HN.out; omega
    have pw : IntKind.i64.wrap ((q' : Int) + 1) = (q' : Int) + 1 := IntWalk.i64_in _ ⟨by omega, by have := HN.out; omega⟩
    have px : IntKind.i64.wrap ((x : Int) + 1) = (x : Int) + 1 := IntWalk.i64_in _ ⟨by omega, by have := HN.out; omega⟩
    have HQ' := Lib.hid hq'
    clear F' hq'
    go_wp2_with fail
    refine ⟨lm - (x + 1), by have := HF.out.2; omega, HJ.out _ _ _ ⟨x + 1, q' + 1, ⟨by omega, by have := HQ'.out; omega⟩, rfl, rfl, rfl, rfl, rfl, rfl, rfl, rfl, rfl, rfl, rfl, rfl, rfl, rfl, rfl, rfl, ?_⟩⟩
    exact HF'.out
  · have hxm : ¬ (x : Int) < (lm : Int) := by omega
    go_wp2_with fail
    refine HQ.out _ _ q HF.out.1 (by omega) rfl rfl rfl rfl rfl rfl rfl rfl rfl rfl rfl rfl rfl rfl
end Go.Proofs.Ytccaaldfccgncaa.A
