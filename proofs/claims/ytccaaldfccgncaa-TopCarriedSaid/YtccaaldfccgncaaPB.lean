/- TopCarried: a round, from the test for a lost packet on. -/
import Derived.Test.YtccaaldfccgncaaPA
namespace Go.Proofs.Ytccaaldfccgncaa.A
open Go.RowKit Go.Proofs.Ytccaaldfccgncaa.K
set_option linter.unusedVariables false
set_option linter.unusedSimpArgs false

set_option maxRecDepth 100000 in
theorem fr3q {a : Act} {x2 x3 x9 x10 x12 x16 x17 x18 x19 x20 x21 x26 x28 : Value} (hs : a.tmps.size = 286) (hd : a.defers = []) (h2 : a.tmps.getD 2 undef = x2) (h3 : a.tmps.getD 3 undef = x3) (h9 : a.tmps.getD 9 undef = x9) (h10 : a.tmps.getD 10 undef = x10) (h12 : a.tmps.getD 12 undef = x12) (h16 : a.tmps.getD 16 undef = x16) (h17 : a.tmps.getD 17 undef = x17) (h18 : a.tmps.getD 18 undef = x18) (h19 : a.tmps.getD 19 undef = x19) (h20 : a.tmps.getD 20 undef = x20) (h21 : a.tmps.getD 21 undef = x21) (h26 : a.tmps.getD 26 undef = x26) (h28 : a.tmps.getD 28 undef = x28) : ∃ U : Nat → Value, a = ⟨#[U 0, U 1, x2, x3, U 4, U 5, U 6, U 7, U 8, x9, x10, U 11, x12, U 13, U 14, U 15, x16, x17, x18, x19, x20, x21, U 22, U 23, U 24, U 25, x26, U 27, x28, U 29, U 30, U 31, U 32, U 33, U 34, U 35, U 36, U 37, U 38, U 39, U 40, U 41, U 42, U 43, U 44, U 45, U 46, U 47, U 48, U 49, U 50, U 51, U 52, U 53, U 54, U 55, U 56, U 57, U 58, U 59, U 60, U 61, U 62, U 63, U 64, U 65, U 66, U 67, U 68, U 69, U 70, U 71, U 72, U 73, U 74, U 75, U 76, U 77, U 78, U 79, U 80, U 81, U 82, U 83, U 84, U 85, U 86, U 87, U 88, U 89, U 90, U 91, U 92, U 93, U 94, U 95, U 96, U 97, U 98, U 99, U 100, U 101, U 102, U 103, U 104, U 105, U 106, U 107, U 108, U 109, U 110, U 111, U 112, U 113, U 114, U 115, U 116, U 117, U 118, U 119, U 120, U 121, U 122, U 123, U 124, U 125, U 126, U 127, U 128, U 129, U 130, U 131, U 132, U 133, U 134, U 135, U 136, U 137, U 138, U 139, U 140, U 141, U 142, U 143, U 144, U 145, U 146, U 147, U 148, U 149, U 150, U 151, U 152, U 153, U 154, U 155, U 156, U 157, U 158, U 159, U 160, U 161, U 162, U 163, U 164, U 165, U 166, U 167, U 168, U 169, U 170, U 171, U 172, U 173, U 174, U 175, U 176, U 177, U 178, U 179, U 180, U 181, U 182, U 183, U 184, U 185, U 186, U 187, U 188, U 189, U 190, U 191, U 192, U 193, U 194, U 195, U 196, U 197, U 198, U 199, U 200, U 201, U 202, U 203, U 204, U 205, U 206, U 207, U 208, U 209, U 210, U 211, U 212, U 213, U 214, U 215, U 216, U 217, U 218, U 219, U 220, U 221, U 222, U 223, U 224, U 225, U 226, U 227, U 228, U 229, U 230, U 231, U 232, U 233, U 234, U 235, U 236, U 237, U 238, U 239, U 240, U 241, U 242, U 243, U 244, U 245, U 246, U 247, U 248, U 249, U 250, U 251, U 252, U 253, U 254, U 255, U 256, U 257, U 258, U 259, U 260, U 261, U 262, U 263, U 264, U 265, U 266, U 267, U 268, U 269, U 270, U 271, U 272, U 273, U 274, U 275, U 276, U 277, U 278, U 279, U 280, U 281, U 282, U 283, U 284, U 285], []⟩ := by
  have e := act_frame a 286 hs hd
  obtain ⟨f, hf⟩ : ∃ f : Nat → Value, (fun i => a.tmps.getD i undef) = f := ⟨_, rfl⟩
  rw [hf, show ((List.range 286).map f).toArray = #[f 0, f 1, f 2, f 3, f 4, f 5, f 6, f 7, f 8, f 9, f 10, f 11, f 12, f 13, f 14, f 15, f 16, f 17, f 18, f 19, f 20, f 21, f 22, f 23, f 24, f 25, f 26, f 27, f 28, f 29, f 30, f 31, f 32, f 33, f 34, f 35, f 36, f 37, f 38, f 39, f 40, f 41, f 42, f 43, f 44, f 45, f 46, f 47, f 48, f 49, f 50, f 51, f 52, f 53, f 54, f 55, f 56, f 57, f 58, f 59, f 60, f 61, f 62, f 63, f 64, f 65, f 66, f 67, f 68, f 69, f 70, f 71, f 72, f 73, f 74, f 75, f 76, f 77, f 78, f 79, f 80, f 81, f 82, f 83, f 84, f 85, f 86, f 87, f 88, f 89, f 90, f 91, f 92, f 93, f 94, f 95, f 96, f 97, f 98, f 99, f 100, f 101, f 102, f 103, f 104, f 105, f 106, f 107, f 108, f 109, f 110, f 111, f 112, f 113, f 114, f 115, f 116, f 117, f 118, f 119, f 120, f 121, f 122, f 123, f 124, f 125, f 126, f 127, f 128, f 129, f 130, f 131, f 132, f 133, f 134, f 135, f 136, f 137, f 138, f 139, f 140, f 141, f 142, f 143, f 144, f 145, f 146, f 147, f 148, f 149, f 150, f 151, f 152, f 153, f 154, f 155, f 156, f 157, f 158, f 159, f 160, f 161, f 162, f 163, f 164, f 165, f 166, f 167, f 168, f 169, f 170, f 171, f 172, f 173, f 174, f 175, f 176, f 177, f 178, f 179, f 180, f 181, f 182, f 183, f 184, f 185, f 186, f 187, f 188, f 189, f 190, f 191, f 192, f 193, f 194, f 195, f 196, f 197, f 198, f 199, f 200, f 201, f 202, f 203, f 204, f 205, f 206, f 207, f 208, f 209, f 210, f 211, f 212, f 213, f 214, f 215, f 216, f 217, f 218, f 219, f 220, f 221, f 222, f 223, f 224, f 225, f 226, f 227, f 228, f 229, f 230, f 231, f 232, f 233, f 234, f 235, f 236, f 237, f 238, f 239, f 240, f 241, f 242, f 243, f 244, f 245, f 246, f 247, f 248, f 249, f 250, f 251, f 252, f 253, f 254, f 255, f 256, f 257, f 258, f 259, f 260, f 261, f 262, f 263, f 264, f 265, f 266, f 267, f 268, f 269, f 270, f 271, f 272, f 273, f 274, f 275, f 276, f 277, f 278, f 279, f 280, f 281, f 282, f 283, f 284, f 285] from rfl] at e
  refine ⟨f, ?_⟩
  have hi : ∀ i, f i = a.tmps.getD i undef := fun i => by rw [← hf]
  rw [e]
  simp only [show f 2 = x2 from (hi 2).trans h2, show f 3 = x3 from (hi 3).trans h3, show f 9 = x9 from (hi 9).trans h9, show f 10 = x10 from (hi 10).trans h10, show f 12 = x12 from (hi 12).trans h12, show f 16 = x16 from (hi 16).trans h16, show f 17 = x17 from (hi 17).trans h17, show f 18 = x18 from (hi 18).trans h18, show f 19 = x19 from (hi 19).trans h19, show f 20 = x20 from (hi 20).trans h20, show f 21 = x21 from (hi 21).trans h21, show f 26 = x26 from (hi 26).trans h26, show f 28 = x28 from (hi 28).trans h28]

set_option maxRecDepth 100000 in
set_option maxHeartbeats 8000000 in
theorem lost_walk {Q : Exit → Act → World → Prop} {a : Act} {w wr : World} {A3 AK AL AO : Option Addr} {n3 k3 nk kK nl kL no kO g9 gq gw gp gu n q0 fi tk tk' room i : Nat} {b ls lp : Int} {gap : Bool} {F : List Fl} {T T' : List Tx} {O : List (List Nat)} {hp : Option (List Nat)} {csU : Array Value} {zs : List Int} {x2 x9 x10 x16 : Value}
    (hs : a.tmps.size = 286) (hd : a.defers = []) (e2 : a.tmps.getD 2 undef = x2) (e3 : a.tmps.getD 3 undef = (.slice A3 n3 k3)) (e9 : a.tmps.getD 9 undef = x9) (e10 : a.tmps.getD 10 undef = x10) (e12 : a.tmps.getD 12 undef = (.slice AK nk kK)) (e16 : a.tmps.getD 16 undef = x16) (e17 : a.tmps.getD 17 undef = (.pointer (some ⟨gp, 0, none⟩))) (e18 : a.tmps.getD 18 undef = (.int .i64 (n : Int))) (e19 : a.tmps.getD 19 undef = (.int .i64 (q0 : Int))) (e20 : a.tmps.getD 20 undef = (.bool gap)) (e21 : a.tmps.getD 21 undef = (.int .i64 (i : Int))) (e26 : a.tmps.getD 26 undef = (.pointer (some ⟨gu, 0, none⟩))) (e28 : a.tmps.getD 28 undef = (.slice AL nl kL))
    (hM : MC w wr g9 b gq gw (.slice AK nk kK) F T' tk' ls (hOf T' tk')) (hF : F.length = nk) (hPL : PL F T' tk' n) (hC : Cut T tk room O fi T' tk') (hwt : Waits T tk)
    (hG : IsG wr gp hp lp) (lp0 : 0 ≤ lp) (lp1 : lp ≤ 30 * (i : Int)) (hi : i < 3000) (hhp : gap = false → hp = none ∨ hp = hOf T tk)
    (hU : Blk wr gu csU 56) (u2 : csU[2]? = some (.int .i64 (fi : Int))) (u4 : csU[4]? = some (.slice AO no kO)) (hO : RowF wr 0 (.slice AO no kO) O) (hno : O.length = no)
    (hol : (gPut fi O ⟨hOf T tk, 0, []⟩ O.length).o.length = nl) (hnl : nl ≤ n) (hk : ∀ k, k < nl → (F.map Fl.bs).getD (n - nl + k) [] = (gPut fi O ⟨hOf T tk, 0, []⟩ O.length).o.getD k [])
    (hat : q0 ≤ n - nl) (ne : gw ≠ gp) (hlp : w.heap.size ≤ gp) (h3 : Ints w .u8 A3 n3 zs)
    (hP : ∀ c (a : Act) (d : Nat) v w, Q (.panic c) (a.put (some d) v) w → Q (.panic c) a w)
    (hQ : ∀ e a' wx hp' lp' q gap', (e = .normal ∨ e = .exit 3) → MC w wx g9 b gq gw (.slice AK nk kK) F T' tk' ls (hOf T' tk') → IsG wx gp hp' lp' → 0 ≤ lp' → lp' ≤ 30 * ((i + 1 : Nat) : Int) → (gap' = false → hp' = none ∨ hp' = hOf T' tk') → q ≤ n → a'.tmps.size = 286 → a'.defers = [] → a'.tmps.getD 2 undef = x2 → a'.tmps.getD 3 undef = (.slice A3 n3 k3) → a'.tmps.getD 9 undef = x9 → a'.tmps.getD 10 undef = x10 → a'.tmps.getD 12 undef = (.slice AK nk kK) → a'.tmps.getD 16 undef = x16 → a'.tmps.getD 17 undef = (.pointer (some ⟨gp, 0, none⟩)) → a'.tmps.getD 18 undef = (.int .i64 (n : Int)) → a'.tmps.getD 19 undef = (.int .i64 (q : Int)) → a'.tmps.getD 20 undef = (.bool gap') → a'.tmps.getD 21 undef = (.int .i64 (i : Int)) → Q e a' wx) :
    Code.wp Try.prog (cR (cR (cR (cR (cR (cR (cR (cL (cL (cR (cL (cL (cR (cL (cR (cR (cR (cR (cR (cR (cR (cR (cR (cR (Try.f3.body.getD .skip))))))))))))))))))))))))) Q a wr := by
  have HQ := Lib.hid hQ
  have H3 := Lib.hid h3
  have H := Lib.hid (And.intro hM (And.intro hF (And.intro hPL (And.intro hC (And.intro hwt (And.intro hG (And.intro lp0 (And.intro lp1 (And.intro hhp (And.intro hU (And.intro u2 (And.intro u4 (And.intro hO (And.intro hno (And.intro hol (And.intro hnl (And.intro hk (And.intro hat (And.intro ne hlp)))))))))))))))))))
  have h63 := h3.2.1
  clear hQ h3 hM hF hPL hC hwt hG lp0 lp1 hhp hU u2 u4 hO hno hol hnl hk hat ne hlp
  obtain ⟨U, rfl⟩ := fr3q hs hd e2 e3 e9 e10 e12 e16 e17 e18 e19 e20 e21 e26 e28
  clear hs hd e2 e3 e9 e10 e12 e16 e17 e18 e19 e20 e21 e26 e28
  unfold Try.f3
  dsimp only [cL, cR, Option.getD_some]
  refine wp_seq_k fun K hK => ?_
  have HK := Lib.hid hK
  clear hK
  by_cases hin : i < n3
  · obtain ⟨ad, rfl, hbk, hc, -⟩ := H3.out.at_ hin
    obtain ⟨z, hz⟩ : ∃ z, zs.getD i 0 = z := ⟨_, rfl⟩
    rw [hz] at hc
    have y3 : wr.cell? (ad.add i) = some (.int .u8 z) := by rw [← hc]; exact World.cell?_of_block (H.out.1.frm.block _ (by rw [block_add]; exact hbk) (fun h => h))
    have hi1 : (i : Int) < (n3 : Int) := by omega
    have hi0 : (0 : Int) ≤ (i : Int) := by omega
    clear hz hc hbk
    cases hb : (bits .and .u8 z 1 == 1) with
    | true =>
      go_wp2_with fail
      refine HQ.out (.exit 3) _ wr hp lp q0 true (.inr rfl) H.out.1 H.out.2.2.2.2.2.1 H.out.2.2.2.2.2.2.1 (by have := H.out.2.2.2.2.2.2.2.1; push_cast; omega) (fun h => by cases h) (by have := H.out.2.2.2.2.2.2.2.2.2.2.2.2.2.2.2.2.2.1; omega) rfl rfl rfl rfl rfl rfl rfl rfl rfl rfl rfl rfl rfl
    | false =>
      go_wp2_with fail
      refine HK.out _ _ (part_walk (x2 := x2) (x3 := .slice (some ad) n3 k3) (x9 := x9) (x10 := x10) (x16 := x16) (x21 := .int .i64 (i : Int)) rfl rfl rfl rfl rfl rfl rfl rfl rfl rfl rfl rfl rfl rfl rfl H.out.1 H.out.2.1 H.out.2.2.1 H.out.2.2.2.1 H.out.2.2.2.2.1 H.out.2.2.2.2.2.1 H.out.2.2.2.2.2.2.1 H.out.2.2.2.2.2.2.2.1 hi H.out.2.2.2.2.2.2.2.2.1 H.out.2.2.2.2.2.2.2.2.2.1 H.out.2.2.2.2.2.2.2.2.2.2.1 H.out.2.2.2.2.2.2.2.2.2.2.2.1 H.out.2.2.2.2.2.2.2.2.2.2.2.2.1 H.out.2.2.2.2.2.2.2.2.2.2.2.2.2.1 H.out.2.2.2.2.2.2.2.2.2.2.2.2.2.2.1 H.out.2.2.2.2.2.2.2.2.2.2.2.2.2.2.2.1 H.out.2.2.2.2.2.2.2.2.2.2.2.2.2.2.2.2.1 H.out.2.2.2.2.2.2.2.2.2.2.2.2.2.2.2.2.2.1 H.out.2.2.2.2.2.2.2.2.2.2.2.2.2.2.2.2.2.2.1 H.out.2.2.2.2.2.2.2.2.2.2.2.2.2.2.2.2.2.2.2 (fun c a d v w h => hP c a d v w h) ?_)
      intro a' wx hp' lp' q M' G' l0 l1 hh hq hs' hd' e2 e3 e9 e10 e12 e16 e17 e18 e19 e20 e21
      exact HQ.out .normal a' wx hp' lp' q false (.inl rfl) M' G' l0 l1 (fun _ => hh) hq hs' hd' e2 e3 e9 e10 e12 e16 e17 e18 e19 e20 e21
  · have hi1 : ¬ (i : Int) < (n3 : Int) := by omega
    go_wp2_with fail
    refine HK.out _ _ (part_walk (x2 := x2) (x3 := .slice A3 n3 k3) (x9 := x9) (x10 := x10) (x16 := x16) (x21 := .int .i64 (i : Int)) rfl rfl rfl rfl rfl rfl rfl rfl rfl rfl rfl rfl rfl rfl rfl H.out.1 H.out.2.1 H.out.2.2.1 H.out.2.2.2.1 H.out.2.2.2.2.1 H.out.2.2.2.2.2.1 H.out.2.2.2.2.2.2.1 H.out.2.2.2.2.2.2.2.1 hi H.out.2.2.2.2.2.2.2.2.1 H.out.2.2.2.2.2.2.2.2.2.1 H.out.2.2.2.2.2.2.2.2.2.2.1 H.out.2.2.2.2.2.2.2.2.2.2.2.1 H.out.2.2.2.2.2.2.2.2.2.2.2.2.1 H.out.2.2.2.2.2.2.2.2.2.2.2.2.2.1 H.out.2.2.2.2.2.2.2.2.2.2.2.2.2.2.1 H.out.2.2.2.2.2.2.2.2.2.2.2.2.2.2.2.1 H.out.2.2.2.2.2.2.2.2.2.2.2.2.2.2.2.2.1 H.out.2.2.2.2.2.2.2.2.2.2.2.2.2.2.2.2.2.1 H.out.2.2.2.2.2.2.2.2.2.2.2.2.2.2.2.2.2.2.1 H.out.2.2.2.2.2.2.2.2.2.2.2.2.2.2.2.2.2.2.2 (fun c a d v w h => hP c a d v w h) ?_)
    intro a' wx hp' lp' q M' G' l0 l1 hh hq hs' hd' e2 e3 e9 e10 e12 e16 e17 e18 e19 e20 e21
    exact HQ.out .normal a' wx hp' lp' q false (.inl rfl) M' G' l0 l1 (fun _ => hh) hq hs' hd' e2 e3 e9 e10 e12 e16 e17 e18 e19 e20 e21
end Go.Proofs.Ytccaaldfccgncaa.A
