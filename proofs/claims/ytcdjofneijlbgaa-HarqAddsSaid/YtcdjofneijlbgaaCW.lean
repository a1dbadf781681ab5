/- HarqAdds: the noise summed up. -/
import Derived.Test.YtcdjofneijlbgaaCT
import Derived.Test.YtcdjofneijlbgaaCU
namespace Go.Proofs.Ytcdjofneijlbgaa.A
open Go.RowKit Go.Proofs.Ytcdjofneijlbgaa.K Go.Proofs.Ytcdjofneijlbgaa.F Go.Proofs.Ytcdjofneijlbgaa.N
set_option linter.unusedVariables false
set_option linter.unusedSimpArgs false

/-- The sums lie in two rows of the call's own. -/
structure Two (w wr : World) (g ga gb : Nat) (A3 : Option Addr) (S : List Pt) (zs ys : List Int) : Prop where
  box : IsBox wr g 16 0 0 st0
  rd : RdC wr A3 S
  ra : RowI wr ga zs
  rb : RowI wr gb ys
  ne : ga ≠ gb
  la : w.heap.size ≤ ga
  lb : w.heap.size ≤ gb
  frm : Frm No w wr
theorem Two.frmN {w wr w' : World} {g ga gb : Nat} {A3 : Option Addr} {S : List Pt} {zs ys : List Int} (h : Two w wr g ga gb A3 S zs ys) (f : Frm No wr w') : Two w w' g ga gb A3 S zs ys :=
  ⟨h.box.frmN f, h.rd.frmN f, f.blk h.ra (fun h => h), f.blk h.rb (fun h => h), h.ne, h.la, h.lb, h.frm.thenN f⟩
theorem Two.set {w wr : World} {g ga gb : Nat} {A3 : Option Addr} {S : List Pt} {zs ys : List Int} (h : Two w wr g ga gb A3 S zs ys) (k : Nat) (x y : Int) :
    Two w (((wr.setCell ⟨ga, k, none⟩ (.int .i64 x)).setCell ⟨gb, k, none⟩ (.int .i64 y)).drew) g ga gb A3 S (zs.set k x) (ys.set k y) := by
  have F : Frm (fun b => b = ga ∨ b = gb) wr (((wr.setCell ⟨ga, k, none⟩ (.int .i64 x)).setCell ⟨gb, k, none⟩ (.int .i64 y)).drew) :=
    (((Frm.refl (fun b => b = ga ∨ b = gb) wr).set (.inl (.inl rfl)) _).set (.inl (.inr rfl)) _).drew
  have n61 : ∀ x cs, Blk wr x cs 61 → ¬ (x = ga ∨ x = gb) := fun x cs hx e => by
    rcases e with rfl | rfl
    · exact Blk.ne hx h.ra (by decide) rfl
    · exact Blk.ne hx h.rb (by decide) rfl
  have n52 : ¬ (g = ga ∨ g = gb) := fun e => by
    obtain ⟨cs, hb, _⟩ := h.box
    rcases e with rfl | rfl
    · exact Blk.ne hb h.ra (by decide) rfl
    · exact Blk.ne hb h.rb (by decide) rfl
  refine ⟨h.box.frm F n52 n61, h.rd.frm F n61, ?_, ?_, h.ne, h.la, h.lb, h.frm.then F (fun x hx => .inr ?_)⟩
  · exact ((h.ra.set k x).other (a := ⟨gb, k, none⟩) h.ne _).drew
  · exact (RowI.set (Blk.other h.rb (a := ⟨ga, k, none⟩) (fun e => h.ne e.symm) _) k y).drew
  · rcases hx with rfl | rfl
    · exact h.la
    · exact h.lb
theorem Two.new {w w1 : World} {g : Nat} {A3 : Option Addr} {S : List Pt} {K : Nat} (B : IsBox w1 g 16 0 0 st0) (R : RdC w1 A3 S) (F : Frm No w w1) :
    Two w (((w1.alloc (.cells (Array.replicate K (Value.int .i64 0)) 3)).alloc (.cells (Array.replicate K (Value.int .i64 0)) 3)).drew) g w1.heap.size (w1.heap.size + 1) A3 S (List.replicate K 0) (List.replicate K 0) := by
  have he : ((List.replicate K (0 : Int)).map (Value.int .i64)).toArray = Array.replicate K (Value.int .i64 0) := by rw [List.map_replicate, List.toArray_replicate]
  have hb := Blk.new w1 (Array.replicate K (Value.int .i64 0)) 3
  have F1 := (Frm.refl No w1).alloc (.cells (Array.replicate K (Value.int .i64 0)) 3)
  have hs : (w1.alloc (.cells (Array.replicate K (Value.int .i64 0)) 3)).heap.size = w1.heap.size + 1 := by show (w1.heap.push _).size = _; rw [Array.size_push]
  have hb2 := Blk.new (w1.alloc (.cells (Array.replicate K (Value.int .i64 0)) 3)) (Array.replicate K (Value.int .i64 0)) 3
  rw [hs] at hb2
  have F2 := (F1.alloc (.cells (Array.replicate K (Value.int .i64 0)) 3)).drew
  exact ⟨B.frmN F2, R.frmN F2, by unfold RowI; rw [he]; exact (hb.alloc _).drew, by unfold RowI; rw [he]; exact hb2.drew, by omega, F.size, by have := F.size; omega, F.thenN F2⟩
theorem Two.swap {w wr : World} {g ga gb : Nat} {A3 : Option Addr} {S : List Pt} {zs ys : List Int} (h : Two w wr g ga gb A3 S zs ys) : Two w wr g gb ga A3 S ys zs :=
  ⟨h.box, h.rd, h.rb, h.ra, fun e => h.ne e.symm, h.lb, h.la, h.frm⟩
theorem IsNs.lt {w : World} {ad : Addr} {len i : Nat} {bs : List NB} (h : IsNs w (some ad) len bs) (hi : i < len) : ad.block < w.heap.size := by
  obtain ⟨ad', e, hb, -⟩ := h.2.2 i _ (List.getElem?_eq_getElem (by rw [h.1]; exact hi))
  injection e with e
  rw [e]; exact hb
/-- What lies there ahead of hearing number j. -/
structure Hd (w wr : World) (g : Nat) (A3 : Option Addr) (S : List Pt) (NS : List (List Int)) (st : Nat → Held) (j : Nat) : Prop where
  box : IsBox wr g 16 0 0 st
  good : Good 16 st
  at_ : AtI S NS st j
  rd : RdC wr A3 S
  frm : Frm No w wr
set_option maxRecDepth 100000 in
set_option maxHeartbeats 16000000 in
theorem sums_walk {w wc : World} {g ga gb n2 c2 K c3 : Nat} {A2 A3 : Option Addr} {S : List Pt} {NS : List NB} (HS : Hid (IsNs w A2 n2 NS)) (g3 : (n2 : Int) ≤ 16) (hK9 : K ≤ 408)
    (HT : Hid (Two w wc g ga gb A3 S (sumL Prod.fst (nsOf NS) K 0 0) (sumL Prod.snd (nsOf NS) K 0 0)))
    {Q : Exit → Act → World → Prop} {u0 u2 u3 u4 u5 u6 u8 u12 u13 u14 u15 u16 u17 u18 u19 u20 u21 u22 u23 u24 u25 u26 u27 u28 u29 u30 u31 u32 u33 u34 u35 u36 u37 u38 u39 u40 u41 u42 u43 u44 u45 u46 u47 u48 u49 u50 u51 u52 u53 u54 u55 u56 u57 u58 u59 u60 u61 u62 u63 u64 u65 u66 u67 u68 u69 u70 u71 u72 u73 u74 u75 u76 u77 u78 u79 u80 u81 u82 u83 u84 u85 u86 u87 u88 u89 u90 u91 u92 u93 u94 u95 u96 u97 u98 u99 u100 u101 u102 u103 u104 u105 u106 u107 u108 u109 u110 u111 u112 u113 u114 u115 u116 u117 u118 u119 u120 u121 u122 u123 u124 u125 u126 u127 u128 u129 u130 u131 u132 u133 u134 u135 u136 u137 u138 u139 u140 u141 u142 u143 u144 u145 u146 u147 u148 u149 u150 u151 u152 u153 u154 u155 u156 u157 u158 u159 u160 u161 u162 u163 u164 u165 u166 u167 u168 u169 u170 u171 u172 u173 u174 u175 u176 u177 u178 u179 u180 u181 u182 u183 u184 u185 u186 u187 u188 u189 u190 u191 u192 u193 u194 u195 u196 u197 u198 u199 u200 u201 u202 u203 u204 u205 u206 u207 u208 u209 u210 u211 u212 u213 u214 u215 u216 u217 u218 u219 u220 u221 u222 u223 u224 u225 u226 u227 u228 u229 u230 u231 u232 u233 u234 u235 u236 u237 u238 u239 u240 u241 u242 u243 u244 u245 u246 u247 u248 u249 u250 u251 u252 u253 u254 u255 u256 u257 u258 u259 : Value}
    (hP : ∀ c (a : Act) (d : Nat) v w, Q (.panic c) (a.put (some d) v) w → Q (.panic c) a w)
    (hQ : ∀ (v11 v12 v77 v78 v79 v80 v81 v82 v83 v84 v85 v86 v87 v88 v89 v90 v91 v92 v93 v94 v95 v96 v97 v98 v99 v100 v101 v102 v103 v104 v105 v106 v107 v108 v109 v110 v111 v112 v113 v114 v115 v116 v117 v118 v119 v120 v121 v122 v123 v124 v125 v126 v127 v128 v129 v130 v131 v132 v133 v134 : Value) (w' : World), Two w w' g ga gb A3 S (sumL Prod.fst (nsOf NS) K n2 0) (sumL Prod.snd (nsOf NS) K n2 0) → Q .normal ⟨#[u0, .slice A2 n2 c2, u2, u3, u4, u5, u6, .slice A3 K c3, u8, .slice (some ⟨ga, 0, none⟩) K K, .slice (some ⟨gb, 0, none⟩) K K, v11, v12, u13, u14, u15, u16, u17, u18, u19, u20, u21, u22, u23, u24, u25, u26, u27, u28, u29, u30, u31, u32, u33, u34, u35, u36, u37, u38, u39, u40, u41, u42, u43, u44, u45, u46, u47, u48, u49, u50, u51, u52, u53, u54, u55, u56, u57, u58, u59, u60, u61, u62, u63, u64, u65, u66, u67, u68, u69, u70, u71, u72, u73, u74, u75, u76, v77, v78, v79, v80, v81, v82, v83, v84, v85, v86, v87, v88, v89, v90, v91, v92, v93, v94, v95, v96, v97, v98, v99, v100, v101, v102, v103, v104, v105, v106, v107, v108, v109, v110, v111, v112, v113, v114, v115, v116, v117, v118, v119, v120, v121, v122, v123, v124, v125, v126, v127, v128, v129, v130, v131, v132, v133, v134, u135, u136, u137, u138, u139, u140, u141, u142, u143, u144, u145, u146, u147, u148, u149, u150, u151, u152, u153, u154, u155, u156, u157, u158, u159, u160, u161, u162, u163, u164, u165, u166, u167, u168, u169, u170, u171, u172, u173, u174, u175, u176, u177, u178, u179, u180, u181, u182, u183, u184, u185, u186, u187, u188, u189, u190, u191, u192, u193, u194, u195, u196, u197, u198, u199, u200, u201, u202, u203, u204, u205, u206, u207, u208, u209, u210, u211, u212, u213, u214, u215, u216, u217, u218, u219, u220, u221, u222, u223, u224, u225, u226, u227, u228, u229, u230, u231, u232, u233, u234, u235, u236, u237, u238, u239, u240, u241, u242, u243, u244, u245, u246, u247, u248, u249, u250, u251, u252, u253, u254, u255, u256, u257, u258, u259], []⟩ w') :
    Code.wp Try.prog (cR (cL (cR (cR (cR (cR (cR (cR (Try.f5.body.getD .skip))))))))) Q ⟨#[u0, .slice A2 n2 c2, u2, u3, u4, u5, u6, .slice A3 K c3, u8, .slice (some ⟨ga, 0, none⟩) K K, .slice (some ⟨gb, 0, none⟩) K K, .int .i64 0, u12, u13, u14, u15, u16, u17, u18, u19, u20, u21, u22, u23, u24, u25, u26, u27, u28, u29, u30, u31, u32, u33, u34, u35, u36, u37, u38, u39, u40, u41, u42, u43, u44, u45, u46, u47, u48, u49, u50, u51, u52, u53, u54, u55, u56, u57, u58, u59, u60, u61, u62, u63, u64, u65, u66, u67, u68, u69, u70, u71, u72, u73, u74, u75, u76, u77, u78, u79, u80, u81, u82, u83, u84, u85, u86, u87, u88, u89, u90, u91, u92, u93, u94, u95, u96, u97, u98, u99, u100, u101, u102, u103, u104, u105, u106, u107, u108, u109, u110, u111, u112, u113, u114, u115, u116, u117, u118, u119, u120, u121, u122, u123, u124, u125, u126, u127, u128, u129, u130, u131, u132, u133, u134, u135, u136, u137, u138, u139, u140, u141, u142, u143, u144, u145, u146, u147, u148, u149, u150, u151, u152, u153, u154, u155, u156, u157, u158, u159, u160, u161, u162, u163, u164, u165, u166, u167, u168, u169, u170, u171, u172, u173, u174, u175, u176, u177, u178, u179, u180, u181, u182, u183, u184, u185, u186, u187, u188, u189, u190, u191, u192, u193, u194, u195, u196, u197, u198, u199, u200, u201, u202, u203, u204, u205, u206, u207, u208, u209, u210, u211, u212, u213, u214, u215, u216, u217, u218, u219, u220, u221, u222, u223, u224, u225, u226, u227, u228, u229, u230, u231, u232, u233, u234, u235, u236, u237, u238, u239, u240, u241, u242, u243, u244, u245, u246, u247, u248, u249, u250, u251, u252, u253, u254, u255, u256, u257, u258, u259], []⟩ wc := by
  unfold Try.f5
  dsimp only [cL, cR, Option.getD_some]
  go_wp2_with fail
  go_loopw [11] (fun vi wr => ∃ i : Nat, vi = .int .i64 i ∧ i ≤ n2 ∧ Two w wr g ga gb A3 S (sumL Prod.fst (nsOf NS) K i 0) (sumL Prod.snd (nsOf NS) K i 0)) (fun vi _ => n2 - (intOf vi).toNat)
  case atStart => exact ⟨0, rfl, by omega, HT.out⟩
  case round =>
    clear HT
    obtain ⟨i, rfl, hi, T⟩ := hrel
    have HT := Lib.hid T
    clear T
    have i0' : (0 : Int) ≤ (i : Int) := Int.natCast_nonneg _
    by_cases hin : i < n2
    · have i1 : (i : Int) < (n2 : Int) := by omega
      have i16 : (i : Int) ≤ 16 := by omega
      go_wp2_with fail
      go_loopw [12] (fun vk wk => ∃ k : Nat, vk = .int .i64 k ∧ k ≤ K ∧ Two w wk g ga gb A3 S (sumL Prod.fst (nsOf NS) K i k) (sumL Prod.snd (nsOf NS) K i k)) (fun vk _ => K - (intOf vk).toNat)
      case atStart => exact ⟨0, rfl, by omega, HT.out⟩
      case round =>
        clear HT
        obtain ⟨k, rfl, hk, T⟩ := hrel
        have HT := Lib.hid T
        clear T
        have k0 : (0 : Int) ≤ (k : Int) := Int.natCast_nonneg _
        have k9 : (k : Int) ≤ 408 := by omega
        have pw1 : IntKind.i64.wrap (2 * (k : Int)) = 2 * (k : Int) := IntWalk.i64_in _ ⟨by omega, by omega⟩
        have pw2 : IntKind.i64.wrap (2 * (k : Int) + 1) = 2 * (k : Int) + 1 := IntWalk.i64_in _ ⟨by omega, by omega⟩
        obtain ⟨ad, B, m, d, rfl, cB, hB⟩ := HS.out.at_ HT.out.frm hin
        have hml := hB.1
        by_cases hkK : k < K
        · have k1 : (k : Int) < (K : Int) := by omega
          by_cases hkm : 2 * k + 1 < m
          · have k2 : 2 * (k : Int) + 1 < (m : Int) := by omega
            obtain ⟨bd, rfl, -, x1, -⟩ := hB.at_ (j := 2 * k) (by omega)
            obtain ⟨bd', e', -, x2, -⟩ := hB.at_ (j := 2 * k + 1) (by omega)
            injection e' with e'
            subst e'
            have x2' : wr.cell? ⟨bd.block, bd.off + (2 * k + 1), none⟩ = some (.int .i8 (((nsOf NS).getD i []).getD (2 * k + 1) 0)) := by rw [← x2]; congr 1
            have b1 := i8_getD hB.2.2.1 (2 * k)
            have b2 := i8_getD hB.2.2.1 (2 * k + 1)
            have hlim := nzS_lim (NS := nsOf NS) k i (fun j hj => HS.out.wf j)
            have hst := nzS_step (nsOf NS) k i (by omega)
            have c4 := HT.out.ra.cell (j := k) (by rw [sumL_len]; exact hkK)
            have c5 := HT.out.rb.cell (j := k) (by rw [sumL_len]; exact hkK)
            rw [sumL_at _ _ _ _ _ hkK, if_neg (by omega)] at c4 c5
            have z4 := Blk.free HT.out.ra k
            have z5 := Blk.free HT.out.rb k
            obtain ⟨x, hx⟩ : ∃ x, ((nsOf NS).getD i []).getD (2 * k) 0 = x := ⟨_, rfl⟩
            obtain ⟨y, hy⟩ : ∃ y, ((nsOf NS).getD i []).getD (2 * k + 1) 0 = y := ⟨_, rfl⟩
            obtain ⟨⟨p, q⟩, hpq⟩ : ∃ p, nzS (nsOf NS) k i = p := ⟨_, rfl⟩
            rw [hx] at x1 b1 hst
            rw [hy] at x2' b2 hst
            rw [hpq] at hlim c4 c5 hst
            simp only at hlim c4 c5 hst
            have T2 := HT.out.set k (p + x) (q + y)
            rw [sumL_set _ _ _ _ _ _ (by rw [hst]), sumL_set _ _ _ _ _ _ (by rw [hst])] at T2
            have HT2 := Lib.hid T2
            have hne := HT.out.ne
            clear T2 hst hx hy hpq HT hml x2
            go_upto_region 14 with fail
            refine re14 (zs := []) (ys := []) (hK := by omega) (hk := hkK) (hi := hin) (hm := hkm) (hx := b1) (hy := b2) (hp := by omega) (hq := by omega) (h1 := cB) (h2 := x1) (h3 := x2') (h4 := c4) (h5 := c5) (z4 := z4) (z5 := z5) (hne := hne) (hP := fun c a d v w h => hP c a d v w h) ?_
            intros
            clear cB hB x1 x2' c4 c5 z4 z5 b1 b2 hlim
            go_wp2_with fail
            go_roundw
            case rel => exact ⟨k + 1, by go_num, by omega, HT2.out⟩
            case measure => simp [intOf]; omega
          · have k2 : ¬ 2 * (k : Int) + 1 < (m : Int) := by omega
            have T2 := HT.out
            rw [sumL_end Prod.fst (nsOf NS) K i k (fun q h1 h2 => by omega), sumL_end Prod.snd (nsOf NS) K i k (fun q h1 h2 => by omega)] at T2
            have HT2 := Lib.hid T2
            clear T2 HT hml hB
            go_wp2_with fail
            go_roundw
            case rel => exact ⟨i + 1, by go_num, by omega, HT2.out⟩
            case measure => simp [intOf]; omega
        · have k1 : ¬ (k : Int) < (K : Int) := by omega
          have T2 := HT.out
          rw [sumL_end Prod.fst (nsOf NS) K i k (fun q h1 h2 => by omega), sumL_end Prod.snd (nsOf NS) K i k (fun q h1 h2 => by omega)] at T2
          have HT2 := Lib.hid T2
          clear T2 HT hml hB
          go_wp2_with fail
          go_roundw
          case rel => exact ⟨i + 1, by go_num, by omega, HT2.out⟩
          case measure => simp [intOf]; omega
    · have i1 : ¬ (i : Int) < (n2 : Int) := by omega
      obtain rfl : i = n2 := by omega
      have HQ := Lib.hid hQ
      clear hQ
      go_wp2_with fail
      exact HQ.out _ _ _ _ _ _ _ _ _ _ _ _ _ _ _ _ _ _ _ _ _ _ _ _ _ _ _ _ _ _ _ _ _ _ _ _ _ _ _ _ _ _ _ _ _ _ _ _ _ _ _ _ _ _ _ _ _ _ _ _ _ HT.out
end Go.Proofs.Ytcdjofneijlbgaa.A
