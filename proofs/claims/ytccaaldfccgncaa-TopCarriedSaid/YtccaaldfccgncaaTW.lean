/- TopCarried: the loop that pushes the texts. -/
import Derived.Test.YtccaaldfccgncaaTA
namespace Go.Proofs.Ytccaaldfccgncaa.A
open Go.RowKit Go.Proofs.Ytccaaldfccgncaa.K
set_option linter.unusedVariables false
set_option linter.unusedSimpArgs false

set_option maxRecDepth 100000 in
theorem fr3t {a : Act} {x1 x2 x3 x9 x10 x12 x13 : Value} (hs : a.tmps.size = 286) (hd : a.defers = []) (h1 : a.tmps.getD 1 undef = x1) (h2 : a.tmps.getD 2 undef = x2) (h3 : a.tmps.getD 3 undef = x3) (h9 : a.tmps.getD 9 undef = x9) (h10 : a.tmps.getD 10 undef = x10) (h12 : a.tmps.getD 12 undef = x12) (h13 : a.tmps.getD 13 undef = x13) : ∃ U : Nat → Value, a = ⟨#[U 0, x1, x2, x3, U 4, U 5, U 6, U 7, U 8, x9, x10, U 11, x12, x13, U 14, U 15, U 16, U 17, U 18, U 19, U 20, U 21, U 22, U 23, U 24, U 25, U 26, U 27, U 28, U 29, U 30, U 31, U 32, U 33, U 34, U 35, U 36, U 37, U 38, U 39, U 40, U 41, U 42, U 43, U 44, U 45, U 46, U 47, U 48, U 49, U 50, U 51, U 52, U 53, U 54, U 55, U 56, U 57, U 58, U 59, U 60, U 61, U 62, U 63, U 64, U 65, U 66, U 67, U 68, U 69, U 70, U 71, U 72, U 73, U 74, U 75, U 76, U 77, U 78, U 79, U 80, U 81, U 82, U 83, U 84, U 85, U 86, U 87, U 88, U 89, U 90, U 91, U 92, U 93, U 94, U 95, U 96, U 97, U 98, U 99, U 100, U 101, U 102, U 103, U 104, U 105, U 106, U 107, U 108, U 109, U 110, U 111, U 112, U 113, U 114, U 115, U 116, U 117, U 118, U 119, U 120, U 121, U 122, U 123, U 124, U 125, U 126, U 127, U 128, U 129, U 130, U 131, U 132, U 133, U 134, U 135, U 136, U 137, U 138, U 139, U 140, U 141, U 142, U 143, U 144, U 145, U 146, U 147, U 148, U 149, U 150, U 151, U 152, U 153, U 154, U 155, U 156, U 157, U 158, U 159, U 160, U 161, U 162, U 163, U 164, U 165, U 166, U 167, U 168, U 169, U 170, U 171, U 172, U 173, U 174, U 175, U 176, U 177, U 178, U 179, U 180, U 181, U 182, U 183, U 184, U 185, U 186, U 187, U 188, U 189, U 190, U 191, U 192, U 193, U 194, U 195, U 196, U 197, U 198, U 199, U 200, U 201, U 202, U 203, U 204, U 205, U 206, U 207, U 208, U 209, U 210, U 211, U 212, U 213, U 214, U 215, U 216, U 217, U 218, U 219, U 220, U 221, U 222, U 223, U 224, U 225, U 226, U 227, U 228, U 229, U 230, U 231, U 232, U 233, U 234, U 235, U 236, U 237, U 238, U 239, U 240, U 241, U 242, U 243, U 244, U 245, U 246, U 247, U 248, U 249, U 250, U 251, U 252, U 253, U 254, U 255, U 256, U 257, U 258, U 259, U 260, U 261, U 262, U 263, U 264, U 265, U 266, U 267, U 268, U 269, U 270, U 271, U 272, U 273, U 274, U 275, U 276, U 277, U 278, U 279, U 280, U 281, U 282, U 283, U 284, U 285], []⟩ := by
  have e := act_frame a 286 hs hd
  obtain ⟨f, hf⟩ : ∃ f : Nat → Value, (fun i => a.tmps.getD i undef) = f := ⟨_, rfl⟩
  rw [hf, show ((List.range 286).map f).toArray = #[f 0, f 1, f 2, f 3, f 4, f 5, f 6, f 7, f 8, f 9, f 10, f 11, f 12, f 13, f 14, f 15, f 16, f 17, f 18, f 19, f 20, f 21, f 22, f 23, f 24, f 25, f 26, f 27, f 28, f 29, f 30, f 31, f 32, f 33, f 34, f 35, f 36, f 37, f 38, f 39, f 40, f 41, f 42, f 43, f 44, f 45, f 46, f 47, f 48, f 49, f 50, f 51, f 52, f 53, f 54, f 55, f 56, f 57, f 58, f 59, f 60, f 61, f 62, f 63, f 64, f 65, f 66, f 67, f 68, f 69, f 70, f 71, f 72, f 73, f 74, f 75, f 76, f 77, f 78, f 79, f 80, f 81, f 82, f 83, f 84, f 85, f 86, f 87, f 88, f 89, f 90, f 91, f 92, f 93, f 94, f 95, f 96, f 97, f 98, f 99, f 100, f 101, f 102, f 103, f 104, f 105, f 106, f 107, f 108, f 109, f 110, f 111, f 112, f 113, f 114, f 115, f 116, f 117, f 118, f 119, f 120, f 121, f 122, f 123, f 124, f 125, f 126, f 127, f 128, f 129, f 130, f 131, f 132, f 133, f 134, f 135, f 136, f 137, f 138, f 139, f 140, f 141, f 142, f 143, f 144, f 145, f 146, f 147, f 148, f 149, f 150, f 151, f 152, f 153, f 154, f 155, f 156, f 157, f 158, f 159, f 160, f 161, f 162, f 163, f 164, f 165, f 166, f 167, f 168, f 169, f 170, f 171, f 172, f 173, f 174, f 175, f 176, f 177, f 178, f 179, f 180, f 181, f 182, f 183, f 184, f 185, f 186, f 187, f 188, f 189, f 190, f 191, f 192, f 193, f 194, f 195, f 196, f 197, f 198, f 199, f 200, f 201, f 202, f 203, f 204, f 205, f 206, f 207, f 208, f 209, f 210, f 211, f 212, f 213, f 214, f 215, f 216, f 217, f 218, f 219, f 220, f 221, f 222, f 223, f 224, f 225, f 226, f 227, f 228, f 229, f 230, f 231, f 232, f 233, f 234, f 235, f 236, f 237, f 238, f 239, f 240, f 241, f 242, f 243, f 244, f 245, f 246, f 247, f 248, f 249, f 250, f 251, f 252, f 253, f 254, f 255, f 256, f 257, f 258, f 259, f 260, f 261, f 262, f 263, f 264, f 265, f 266, f 267, f 268, f 269, f 270, f 271, f 272, f 273, f 274, f 275, f 276, f 277, f 278, f 279, f 280, f 281, f 282, f 283, f 284, f 285] from rfl] at e
  refine ⟨f, ?_⟩
  have hi : ∀ i, f i = a.tmps.getD i undef := fun i => by rw [← hf]
  rw [e]
  simp only [show f 1 = x1 from (hi 1).trans h1, show f 2 = x2 from (hi 2).trans h2, show f 3 = x3 from (hi 3).trans h3, show f 9 = x9 from (hi 9).trans h9, show f 10 = x10 from (hi 10).trans h10, show f 12 = x12 from (hi 12).trans h12, show f 13 = x13 from (hi 13).trans h13]

set_option maxRecDepth 100000 in
set_option maxHeartbeats 8000000 in
theorem push_walk {Q : Exit → Act → World → Prop} {a : Act} {w w0 : World} {A1 : Option Addr} {n1 k1 g9 gq : Nat} {b : Int} {L : List Fl} {v0 x2 x3 : Value} {F0 : List Fl} {T0 : List Tx} {ls0 : Int} (hs : a.tmps.size = 286) (hd : a.defers = []) (e1 : a.tmps.getD 1 undef = (.slice A1 n1 k1)) (e2 : a.tmps.getD 2 undef = x2) (e3 : a.tmps.getD 3 undef = x3) (e9 : a.tmps.getD 9 undef = (.pointer (some ⟨g9, 0, none⟩))) (e10 : a.tmps.getD 10 undef = (.pointer (some ⟨gq, 0, none⟩))) (e12 : a.tmps.getD 12 undef = v0) (e13 : a.tmps.getD 13 undef = (.int .i64 0))
    (hL : IsTxs w A1 n1 L) (h0 : LS w w0 g9 b gq v0 F0 T0 ls0 0)
    (hP : ∀ c (a : Act) (d : Nat) v w, Q (.panic c) (a.put (some d) v) w → Q (.panic c) a w)
    (hR : ∀ a' wx, Frm No w wx → a'.defers = [] → a'.tmps.getD 8 undef = .bool true → Q .ret a' wx)
    (hQ : ∀ a' wx v F T ls, LS w wx g9 b gq v F T ls 20 → a'.tmps.size = 286 → a'.defers = [] → a'.tmps.getD 2 undef = x2 → a'.tmps.getD 3 undef = x3 → a'.tmps.getD 9 undef = (.pointer (some ⟨g9, 0, none⟩)) → a'.tmps.getD 10 undef = (.pointer (some ⟨gq, 0, none⟩)) → a'.tmps.getD 12 undef = v → Q .normal a' wx) :
    Code.wp Try.prog (cR (cL (cR (cR (cR (cR (cR (cR (Try.f3.body.getD .skip))))))))) Q a w0 := by
  have HQ := Lib.hid hQ
  have HR := Lib.hid hR
  have HL := Lib.hid hL
  have h63 := hL.2.1
  clear hQ hR hL
  unfold Try.f3
  dsimp only [cL, cR, Option.getD_some]
  refine wp_block ?_
  refine wp_loop_ghost_k (fun m a' wr => ∃ (i : Nat) (v : Value) (F : List Fl) (T : List Tx) (ls : Int), i ≤ 20 ∧ i ≤ n1 ∧ m = 20 - i ∧ a'.tmps.size = 286 ∧ a'.defers = [] ∧ a'.tmps.getD 1 undef = (.slice A1 n1 k1) ∧ a'.tmps.getD 2 undef = x2 ∧ a'.tmps.getD 3 undef = x3 ∧ a'.tmps.getD 9 undef = (.pointer (some ⟨g9, 0, none⟩)) ∧ a'.tmps.getD 10 undef = (.pointer (some ⟨gq, 0, none⟩)) ∧ a'.tmps.getD 12 undef = v ∧ a'.tmps.getD 13 undef = (.int .i64 (i : Int)) ∧ LS w wr g9 b gq v F T ls i) 20 ⟨0, v0, F0, T0, ls0, by omega, Nat.zero_le _, rfl, hs, hd, e1, e2, e3, e9, e10, e12, e13, h0⟩ ?_
  rintro m a' wr ⟨i, v, F, T, ls, hi20, hin, hm, hs', hd', e1', e2', e3', e9', e10', e12', e13', HS⟩ J K hJ hK
  obtain ⟨U, rfl⟩ := fr3t hs' hd' e1' e2' e3' e9' e10' e12' e13'
  clear hs' hd' e1' e2' e3' e9' e10' e12' e13' e1 e2 e3 e9 e10 e12 e13 hs hd h0
  obtain ⟨kl, hkl⟩ : ∃ kl, F.length = kl := ⟨_, rfl⟩
  obtain ⟨AF, cF, rfl, -⟩ := HS.k.out hkl
  have HF := Lib.hid (And.intro HS (And.intro hm hkl))
  have HJ := Lib.hid hJ
  clear HS hm hJ hkl
  by_cases hi : i < n1
  · have hi1 : (i : Int) < (n1 : Int) := by omega
    by_cases h20 : i < 20
    · have hi2 : (i : Int) < 20 := by omega
      have hi0 : (0 : Int) ≤ (i : Int) := by omega
      obtain ⟨ad, f, rfl, y0, hb, hf63, h256⟩ := HL.out.at_ hi
      have y1 := y0 wr HF.out.1.frm
      obtain ⟨A, c, bs⟩ := f
      obtain ⟨n, hn⟩ : ∃ n, bs.length = n := ⟨_, rfl⟩
      simp only [Fl.val] at y0 y1 hb hf63 h256
      rw [hn] at y1 hf63
      have HY := Lib.hid y0
      clear y0
      have pw : IntKind.i64.wrap ((i : Int) + 1) = (i : Int) + 1 := IntWalk.i64_in _ ⟨by omega, by omega⟩
      have HB := Lib.hid (And.intro hb (And.intro h256 hn))
      clear hb h256 hn
      by_cases hbig : 1100 < n
      · have hbig' : (1100 : Int) < (n : Int) := by omega
        have hal := alive_yes wr
        go_wp2_with fail
        refine hal.mono ?_
        rintro e w2 ⟨rfl, F2⟩
        have HF2 := Lib.hid (HF.out.1.frm.thenN F2)
        clear F2
        go_wp2_with fail
        exact HR.out _ _ HF2.out rfl rfl
      · have hbig' : ¬ (1100 : Int) < (n : Int) := by omega
        by_cases hgood : 1 ≤ n ∧ n ≤ 1000
        · have hT := HF.out.1.len
          have hpu := push_ok wr gq 20000 T 0 ls (tl T : Nat) A n c bs HF.out.1.q (by decide) (HB.out.1.frmN HF.out.1.frm) HB.out.2.2 (fun ad' e' => by
            obtain ⟨ad2, e2, hb2, -⟩ := HB.out.1.at_ (i := 0) (by have := HB.out.2.2; omega)
            rw [e'] at e2
            injection e2 with e2
            subst e2
            have := HF.out.1.lq
            omega) hgood.1 hgood.2 (by omega) (by have := HF.out.1.byt; omega) HF.out.1.ls0 (by have := HF.out.1.ls1; omega) (by omega) (by have := HF.out.1.byt; omega) (by decide)
          have HG := Lib.hid hgood
          clear hgood hT
          go_wp2_with fail
          refine hpu.mono ?_
          rintro e w2 ⟨rfl, ⟨A', c', Q2⟩, F2⟩
          obtain ⟨q3, b3, k3, f3⟩ := HF.out.1.pushed HB.out.2.2 HG.out.1 HG.out.2 Q2 F2
          have own1 := World.ownsRow.alloc k3.own (.cells #[.slice A n c] 24)
          rw [HF.out.2.2] at own1
          have hrd := one_rds w2 (.slice A n c) 24
          obtain ⟨j0, hi0', hz0, hz1, hz2⟩ := info_parts info24
          have hsz : w.heap.size ≤ (w2.alloc (.cells #[.slice A n c] 24)).heap.size := (f3.alloc _).size
          have y2 : w2.cell? (ad.add i) = some (.slice A n c) := by rw [HY.out w2 f3, HB.out.2.2]
          have H3 := Lib.hid (And.intro q3 (And.intro b3 (And.intro k3 f3)))
          have kl9 : kl ≤ 20 := by have h1 := HF.out.1.flen; have h2 := HF.out.1.len; have h3 := HF.out.2.2; omega
          clear hpu Q2 F2 q3 b3 k3 f3
          go_wp2_with (at_builtin; go_must (refine wpList_append_rds _ rfl _ _ 22 rfl w.heap.size 24 j0 _ 1 24 Try.underlying22 hi0' hz0 hz1 hz2 rfl (by omega) (.slice AF kl cF) kl (F.map Fl.val) rfl own1 (some ⟨w2.heap.size, 0, none⟩) 1 1 [.slice A n c] rfl hrd (by simp [Value.oneCell']) (by unfold maxLen; omega) (by omega) hsz ?_; intro v4 w4 own4 hg4; have hpf := Lib.hid (And.intro own4 hg4); clear own4 hg4))
          have hl := hpf.out.1
          have hg := hpf.out.2
          rw [← HB.out.2.2] at hl hg
          refine ⟨20 - (i + 1), by have := HF.out.2; omega, HJ.out _ _ _ ⟨i + 1, v4, F ++ [⟨A, c, bs⟩], T ++ [⟨ls + 1, A', c', bs⟩], ls + 1, by omega, by omega, rfl, rfl, rfl, rfl, rfl, rfl, rfl, rfl, rfl, rfl, ?_⟩⟩
          exact HF.out.1.next (f := ⟨A, c, bs⟩) HB.out.2.2 HG.out.1 HG.out.2 H3.out.1 H3.out.2.1 H3.out.2.2.1 H3.out.2.2.2 HB.out.1 HB.out.2.1 HF.out.2.2 hl hg
        · have hno : n = 0 ∨ 1000 < n ∨ 64 ≤ T.length ∨ (20000 : Int) - (tl T : Nat) < (n : Int) := by omega
          have hpn := push_no wr gq 20000 T 0 ls (tl T : Nat) A n c HF.out.1.q (by decide) (by omega) (by have := HF.out.1.byt; omega) (by decide) (by have := HF.out.1.len; omega) hf63 hno
          clear hgood hno
          go_wp2_with fail
          refine hpn.mono ?_
          rintro e w2 ⟨⟨E, rfl, hE⟩, F2⟩
          have HF2 := Lib.hid (HF.out.1.frmN F2).skip
          have hE2 : (E == 0) = false := by rw [beq_eq_false_iff_ne]; exact hE
          clear F2 hpn hE
          go_wp2_with fail
          refine ⟨20 - (i + 1), by have := HF.out.2; omega, HJ.out _ _ _ ⟨i + 1, _, F, T, ls, by omega, by omega, rfl, rfl, rfl, rfl, rfl, rfl, rfl, rfl, rfl, rfl, HF2.out⟩⟩
    · have hi2 : ¬ (i : Int) < 20 := by omega
      obtain rfl : i = 20 := by omega
      go_wp2_with fail
      exact HQ.out _ _ _ F T ls HF.out.1 rfl rfl rfl rfl rfl rfl rfl
  · have hi1 : ¬ (i : Int) < (n1 : Int) := by omega
    go_wp2_with fail
    exact HQ.out _ _ _ F T ls (HF.out.1.mono hi20) rfl rfl rfl rfl rfl rfl rfl
end Go.Proofs.Ytccaaldfccgncaa.A
