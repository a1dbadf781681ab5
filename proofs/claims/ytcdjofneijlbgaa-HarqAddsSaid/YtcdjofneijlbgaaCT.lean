/- HarqAdds: the two regions that store. -/
import Derived.Test.YtcdjofneijlbgaaCR
import Derived.Test.YtcdjofneijlbgaaCL
import Derived.Test.YtcdjofneijlbgaaRP
import Derived.Deep.CutBlock
import Derived.Deep.DeepCutAuto
namespace Go.Proofs.Ytcdjofneijlbgaa.A
open Go.RowKit Go.Proofs.Ytcdjofneijlbgaa.K Go.Proofs.Ytcdjofneijlbgaa.F Go.Proofs.Ytcdjofneijlbgaa.N
set_option linter.unusedVariables false
set_option linter.unusedSimpArgs false

def RowI (w : World) (g : Nat) (zs : List Int) : Prop := Blk w g (zs.map (Value.int .i64)).toArray 3
theorem RowI.cell {w : World} {g : Nat} {zs : List Int} (h : RowI w g zs) {j : Nat} (hj : j < zs.length) : w.cell? ⟨g, j, none⟩ = some (.int .i64 (zs.getD j 0)) := by
  rw [Blk.cell h, List.getElem?_toArray, List.getElem?_map, List.getElem?_eq_getElem hj, List.getD_eq_getElem?_getD, List.getElem?_eq_getElem hj]; rfl
theorem RowI.set {w : World} {g : Nat} {zs : List Int} (h : RowI w g zs) (j : Nat) (x : Int) : RowI (w.setCell ⟨g, j, none⟩ (.int .i64 x)) g (zs.set j x) := by
  have := Blk.set h j (.int .i64 x)
  unfold RowI
  rw [List.map_set]
  simpa using this
def cL : Code → Code | .seq a _ => a | .block _ b => b | .loop b => b | .cond _ a _ => a | c => c
def cR : Code → Code | .seq _ b => b | .cond _ _ b => b | c => c
set_option maxRecDepth 100000 in
set_option maxHeartbeats 16000000 in
theorem re14 {wr : World} {ad B : Addr} {ga gb n2 c2 K i k m d : Nat} {x y p q : Int} {zs ys : List Int}
    (hK : K ≤ 100000) (hk : k < K) (hi : i < n2) (hm : 2 * k + 1 < m) (hx : -128 ≤ x ∧ x ≤ 127) (hy : -128 ≤ y ∧ y ≤ 127) (hp : -10000 ≤ p ∧ p ≤ 10000) (hq : -10000 ≤ q ∧ q ≤ 10000)
    (h1 : wr.cell? (ad.add i) = some (.slice (some B) m d)) (h2 : wr.cell? (B.add (2 * k)) = some (.int .i8 x)) (h3 : wr.cell? ⟨B.block, B.off + (2 * k + 1), none⟩ = some (.int .i8 y))
    (h4 : wr.cell? ⟨ga, k, none⟩ = some (.int .i64 p)) (h5 : wr.cell? ⟨gb, k, none⟩ = some (.int .i64 q)) (z4 : wr.frozen? ⟨ga, k, none⟩ = false) (z5 : wr.frozen? ⟨gb, k, none⟩ = false) (hne : ga ≠ gb)
    {Q : Exit → Act → World → Prop} {u0 u2 u3 u4 u5 u6 u7 u8 u13 u14 u15 u16 u17 u18 u19 u20 u21 u22 u23 u24 u25 u26 u27 u28 u29 u30 u31 u32 u33 u34 u35 u36 u37 u38 u39 u40 u41 u42 u43 u44 u45 u46 u47 u48 u49 u50 u51 u52 u53 u54 u55 u56 u57 u58 u59 u60 u61 u62 u63 u64 u65 u66 u67 u68 u69 u70 u71 u72 u73 u74 u75 u76 u77 u78 u79 u80 u81 u82 u83 u84 u85 u86 u87 u88 u89 u90 u91 u92 u93 u94 u95 u96 u97 u98 u99 u100 u101 u102 u103 u104 u105 u106 u107 u108 u109 u110 u111 u112 u113 u114 u115 u116 u117 u118 u119 u120 u121 u122 u123 u124 u125 u126 u127 u128 u129 u130 u131 u132 u133 u134 u135 u136 u137 u138 u139 u140 u141 u142 u143 u144 u145 u146 u147 u148 u149 u150 u151 u152 u153 u154 u155 u156 u157 u158 u159 u160 u161 u162 u163 u164 u165 u166 u167 u168 u169 u170 u171 u172 u173 u174 u175 u176 u177 u178 u179 u180 u181 u182 u183 u184 u185 u186 u187 u188 u189 u190 u191 u192 u193 u194 u195 u196 u197 u198 u199 u200 u201 u202 u203 u204 u205 u206 u207 u208 u209 u210 u211 u212 u213 u214 u215 u216 u217 u218 u219 u220 u221 u222 u223 u224 u225 u226 u227 u228 u229 u230 u231 u232 u233 u234 u235 u236 u237 u238 u239 u240 u241 u242 u243 u244 u245 u246 u247 u248 u249 u250 u251 u252 u253 u254 u255 u256 u257 u258 u259 : Value}
    (hP : ∀ c (a : Act) (d : Nat) v w, Q (.panic c) (a.put (some d) v) w → Q (.panic c) a w)
    (hQ : ∀ (v100 v101 v102 v103 v104 v105 v106 v107 v108 v109 v110 v111 v112 v113 v114 v115 v116 v117 v118 v119 v120 v121 v122 v123 v124 v125 v126 v127 v128 v129 v130 v131 v132 v133 v134 : Value), Q .normal ⟨#[u0, .slice (some ad) n2 c2, u2, u3, u4, u5, u6, u7, u8, .slice (some ⟨ga, 0, none⟩) K K, .slice (some ⟨gb, 0, none⟩) K K, .int .i64 (i : Int), .int .i64 (k : Int), u13, u14, u15, u16, u17, u18, u19, u20, u21, u22, u23, u24, u25, u26, u27, u28, u29, u30, u31, u32, u33, u34, u35, u36, u37, u38, u39, u40, u41, u42, u43, u44, u45, u46, u47, u48, u49, u50, u51, u52, u53, u54, u55, u56, u57, u58, u59, u60, u61, u62, u63, u64, u65, u66, u67, u68, u69, u70, u71, u72, u73, u74, u75, u76, u77, u78, u79, u80, u81, u82, u83, u84, u85, u86, u87, u88, u89, u90, u91, u92, u93, u94, u95, u96, u97, u98, u99, v100, v101, v102, v103, v104, v105, v106, v107, v108, v109, v110, v111, v112, v113, v114, v115, v116, v117, v118, v119, v120, v121, v122, v123, v124, v125, v126, v127, v128, v129, v130, v131, v132, v133, v134, u135, u136, u137, u138, u139, u140, u141, u142, u143, u144, u145, u146, u147, u148, u149, u150, u151, u152, u153, u154, u155, u156, u157, u158, u159, u160, u161, u162, u163, u164, u165, u166, u167, u168, u169, u170, u171, u172, u173, u174, u175, u176, u177, u178, u179, u180, u181, u182, u183, u184, u185, u186, u187, u188, u189, u190, u191, u192, u193, u194, u195, u196, u197, u198, u199, u200, u201, u202, u203, u204, u205, u206, u207, u208, u209, u210, u211, u212, u213, u214, u215, u216, u217, u218, u219, u220, u221, u222, u223, u224, u225, u226, u227, u228, u229, u230, u231, u232, u233, u234, u235, u236, u237, u238, u239, u240, u241, u242, u243, u244, u245, u246, u247, u248, u249, u250, u251, u252, u253, u254, u255, u256, u257, u258, u259], []⟩ (((wr.setCell ⟨ga, k, none⟩ (.int .i64 (p + x))).setCell ⟨gb, k, none⟩ (.int .i64 (q + y))).drew)) :
    Code.wp Try.prog (cL (cL (cR (cL (cL (cR (cL (cL (cR (cL (cL (cR (cL (cR (cR (cR (cR (cR (cR (Try.f5.body.getD .skip)))))))))))))))))))) Q ⟨#[u0, .slice (some ad) n2 c2, u2, u3, u4, u5, u6, u7, u8, .slice (some ⟨ga, 0, none⟩) K K, .slice (some ⟨gb, 0, none⟩) K K, .int .i64 (i : Int), .int .i64 (k : Int), u13, u14, u15, u16, u17, u18, u19, u20, u21, u22, u23, u24, u25, u26, u27, u28, u29, u30, u31, u32, u33, u34, u35, u36, u37, u38, u39, u40, u41, u42, u43, u44, u45, u46, u47, u48, u49, u50, u51, u52, u53, u54, u55, u56, u57, u58, u59, u60, u61, u62, u63, u64, u65, u66, u67, u68, u69, u70, u71, u72, u73, u74, u75, u76, u77, u78, u79, u80, u81, u82, u83, u84, u85, u86, u87, u88, u89, u90, u91, u92, u93, u94, u95, u96, u97, u98, u99, u100, u101, u102, u103, u104, u105, u106, u107, u108, u109, u110, u111, u112, u113, u114, u115, u116, u117, u118, u119, u120, u121, u122, u123, u124, u125, u126, u127, u128, u129, u130, u131, u132, u133, u134, u135, u136, u137, u138, u139, u140, u141, u142, u143, u144, u145, u146, u147, u148, u149, u150, u151, u152, u153, u154, u155, u156, u157, u158, u159, u160, u161, u162, u163, u164, u165, u166, u167, u168, u169, u170, u171, u172, u173, u174, u175, u176, u177, u178, u179, u180, u181, u182, u183, u184, u185, u186, u187, u188, u189, u190, u191, u192, u193, u194, u195, u196, u197, u198, u199, u200, u201, u202, u203, u204, u205, u206, u207, u208, u209, u210, u211, u212, u213, u214, u215, u216, u217, u218, u219, u220, u221, u222, u223, u224, u225, u226, u227, u228, u229, u230, u231, u232, u233, u234, u235, u236, u237, u238, u239, u240, u241, u242, u243, u244, u245, u246, u247, u248, u249, u250, u251, u252, u253, u254, u255, u256, u257, u258, u259], []⟩ wr := by
  have k0 : (0 : Int) ≤ (k : Int) := Int.natCast_nonneg _
  have i0' : (0 : Int) ≤ (i : Int) := Int.natCast_nonneg _
  have k1 : (k : Int) < (K : Int) := by omega
  have i1 : (i : Int) < (n2 : Int) := by omega
  have k2 : 2 * (k : Int) + 1 < (m : Int) := by omega
  have k3 : 2 * (k : Int) < (m : Int) := by omega
  have k5 : (k : Int) ≤ 100000 := by omega
  have k6 : (0 : Int) ≤ 2 * (k : Int) := by omega
  have k7 : (0 : Int) ≤ 2 * (k : Int) + 1 := by omega
  have tn1 : (2 * (k : Int)).toNat = 2 * k := by omega
  have tn2 : (2 * (k : Int) + 1).toNat = 2 * k + 1 := by omega
  have pw1 : IntKind.i64.wrap (2 * (k : Int)) = 2 * (k : Int) := IntWalk.i64_in _ ⟨by omega, by omega⟩
  have pw2 : IntKind.i64.wrap (2 * (k : Int) + 1) = 2 * (k : Int) + 1 := IntWalk.i64_in _ ⟨by omega, by omega⟩
  have ww1 : wrap64 (2 * (k : Int)) = 2 * (k : Int) := IntWalk.wrap64_in _ ⟨by omega, by omega⟩
  have ww2 : wrap64 (2 * (k : Int) + 1) = 2 * (k : Int) + 1 := IntWalk.wrap64_in _ ⟨by omega, by omega⟩
  have px : IntKind.i64.wrap x = x := IntWalk.i64_in _ ⟨by omega, by omega⟩
  have py : IntKind.i64.wrap y = y := IntWalk.i64_in _ ⟨by omega, by omega⟩
  have wx : wrap64 x = x := IntWalk.wrap64_in _ ⟨by omega, by omega⟩
  have wy : wrap64 y = y := IntWalk.wrap64_in _ ⟨by omega, by omega⟩
  have pp : IntKind.i64.wrap (p + x) = p + x := IntWalk.i64_in _ ⟨by omega, by omega⟩
  have qq : IntKind.i64.wrap (q + y) = q + y := IntWalk.i64_in _ ⟨by omega, by omega⟩
  have wpp : wrap64 (p + x) = p + x := IntWalk.wrap64_in _ ⟨by omega, by omega⟩
  have wqq : wrap64 (q + y) = q + y := IntWalk.wrap64_in _ ⟨by omega, by omega⟩
  have ea : (⟨ga, 0, none⟩ : Addr).add k = ⟨ga, k, none⟩ := by unfold Addr.add; by_cases h0 : k = 0 <;> simp [h0]
  have eb : (⟨gb, 0, none⟩ : Addr).add k = ⟨gb, k, none⟩ := by unfold Addr.add; by_cases h0 : k = 0 <;> simp [h0]
  have d5 : (wr.setCell ⟨ga, k, none⟩ (.int .i64 (p + x))).cell? ⟨gb, k, none⟩ = some (.int .i64 q) := (World.cell?_setCell_other _ _ _ _ (by intro e; injection e with e; exact hne e)).trans h5
  unfold Try.f5
  dsimp only [cL, cR, Option.getD_some]
  refine wp_region_P (S := fun w' => w'.cell? (ad.add i) = some (.slice (some B) m d) ∧ w'.cell? (B.add (2 * k)) = some (.int .i8 x) ∧ w'.cell? ⟨B.block, B.off + (2 * k + 1), none⟩ = some (.int .i8 y) ∧ w'.cell? ⟨ga, k, none⟩ = some (.int .i64 p) ∧ w'.cell? ⟨gb, k, none⟩ = some (.int .i64 q)) 34 (by kernel_rfl) ⟨h1, h2, h3, h4, h5⟩ (fun hHeld => ?_)
  refine wpAnyP_take (i := 0) (v := ?rpv5r14_0) rfl (by kernel_rfl) (by kernel_rfl) (by kernel_rfl) (fun c a w h => hP c a _ _ w h) (by decide) (by kernel_rfl) (by kernel_rfl) (Or.inl ⟨by rfl, ?rpy5r14_0⟩) (by assumption) ?rpr5r14_0
  case rpy5r14_0 => (intro w hSw; (try dsimp only at hSw); go_simp; try with_reducible rfl)
  try simp only [Act.put, List.setIfInBounds_toArray, List.set_cons_zero, List.set_cons_succ, List.getElem_toArray, List.getElem_cons_zero, List.getElem_cons_succ]
  refine wpAnyP_take (i := 1) (v := ?rpv5r14_1) rfl (by kernel_rfl) (by kernel_rfl) (by kernel_rfl) (fun c a w h => hP c a _ _ w h) (by decide) (by kernel_rfl) (by kernel_rfl) (Or.inl ⟨by rfl, ?rpy5r14_1⟩) (by assumption) ?rpr5r14_1
  case rpy5r14_1 => (intro w hSw; (try dsimp only at hSw); go_simp; try with_reducible rfl)
  try simp only [Act.put, List.setIfInBounds_toArray, List.set_cons_zero, List.set_cons_succ, List.getElem_toArray, List.getElem_cons_zero, List.getElem_cons_succ]
  refine wpAnyP_takep (i := 2) (v := ?rpv5r14_2) rfl (by kernel_rfl) (by kernel_rfl) (by kernel_rfl) (fun c a w h => hP c a _ _ w h) (by decide) (Or.inl ⟨by rfl, ?rpy5r14_2⟩) (fun _ => by assumption) ?rpr5r14_2
  case rpy5r14_2 => (intro w hSw; (try dsimp only at hSw); go_simp; try with_reducible rfl)
  try simp only [Act.put, List.setIfInBounds_toArray, List.set_cons_zero, List.set_cons_succ, List.getElem_toArray, List.getElem_cons_zero, List.getElem_cons_succ]
  refine wpAnyP_takep (i := 3) (v := ?rpv5r14_3) rfl (by kernel_rfl) (by kernel_rfl) (by kernel_rfl) (fun c a w h => hP c a _ _ w h) (by decide) (Or.inl ⟨by rfl, ?rpy5r14_3⟩) (fun _ => by assumption) ?rpr5r14_3
  case rpy5r14_3 => (intro w hSw; (try dsimp only at hSw); go_simp; try with_reducible rfl)
  try simp only [Act.put, List.setIfInBounds_toArray, List.set_cons_zero, List.set_cons_succ, List.getElem_toArray, List.getElem_cons_zero, List.getElem_cons_succ]
  refine wpAnyP_take (i := 4) (v := ?rpv5r14_4) rfl (by kernel_rfl) (by kernel_rfl) (by kernel_rfl) (fun c a w h => hP c a _ _ w h) (by decide) (by kernel_rfl) (by kernel_rfl) (Or.inl ⟨by rfl, ?rpy5r14_4⟩) (by assumption) ?rpr5r14_4
  case rpy5r14_4 => (intro w hSw; (try dsimp only at hSw); go_simp; try with_reducible rfl)
  try simp only [Act.put, List.setIfInBounds_toArray, List.set_cons_zero, List.set_cons_succ, List.getElem_toArray, List.getElem_cons_zero, List.getElem_cons_succ]
  refine wpAnyP_take (i := 5) (v := ?rpv5r14_5) rfl (by kernel_rfl) (by kernel_rfl) (by kernel_rfl) (fun c a w h => hP c a _ _ w h) (by decide) (by kernel_rfl) (by kernel_rfl) (Or.inl ⟨by rfl, ?rpy5r14_5⟩) (by assumption) ?rpr5r14_5
  case rpy5r14_5 => (intro w hSw; (try dsimp only at hSw); go_simp; try with_reducible rfl)
  try simp only [Act.put, List.setIfInBounds_toArray, List.set_cons_zero, List.set_cons_succ, List.getElem_toArray, List.getElem_cons_zero, List.getElem_cons_succ]
  refine wpAnyP_take (i := 6) (v := ?rpv5r14_6) rfl (by kernel_rfl) (by kernel_rfl) (by kernel_rfl) (fun c a w h => hP c a _ _ w h) (by decide) (by kernel_rfl) (by kernel_rfl) (Or.inl ⟨by rfl, ?rpy5r14_6⟩) (by assumption) ?rpr5r14_6
  case rpy5r14_6 => (intro w hSw; (try dsimp only at hSw); go_simp; try with_reducible rfl)
  try simp only [Act.put, List.setIfInBounds_toArray, List.set_cons_zero, List.set_cons_succ, List.getElem_toArray, List.getElem_cons_zero, List.getElem_cons_succ]
  refine wpAnyP_take (i := 7) (v := ?rpv5r14_7) rfl (by kernel_rfl) (by kernel_rfl) (by kernel_rfl) (fun c a w h => hP c a _ _ w h) (by decide) (by kernel_rfl) (by kernel_rfl) (Or.inl ⟨by rfl, ?rpy5r14_7⟩) (by assumption) ?rpr5r14_7
  case rpy5r14_7 => (intro w hSw; (try dsimp only at hSw); go_simp; try with_reducible rfl)
  try simp only [Act.put, List.setIfInBounds_toArray, List.set_cons_zero, List.set_cons_succ, List.getElem_toArray, List.getElem_cons_zero, List.getElem_cons_succ]
  refine wpAnyP_take (i := 8) (v := ?rpv5r14_8) rfl (by kernel_rfl) (by kernel_rfl) (by kernel_rfl) (fun c a w h => hP c a _ _ w h) (by decide) (by kernel_rfl) (by kernel_rfl) (Or.inl ⟨by rfl, ?rpy5r14_8⟩) (by assumption) ?rpr5r14_8
  case rpy5r14_8 => (intro w hSw; (try dsimp only at hSw); go_simp; try with_reducible rfl)
  try simp only [Act.put, List.setIfInBounds_toArray, List.set_cons_zero, List.set_cons_succ, List.getElem_toArray, List.getElem_cons_zero, List.getElem_cons_succ]
  refine wpAnyP_take (i := 9) (v := ?rpv5r14_9) rfl (by kernel_rfl) (by kernel_rfl) (by kernel_rfl) (fun c a w h => hP c a _ _ w h) (by decide) (by kernel_rfl) (by kernel_rfl) (Or.inl ⟨by rfl, ?rpy5r14_9⟩) (by assumption) ?rpr5r14_9
  case rpy5r14_9 => (intro w hSw; (try dsimp only at hSw); go_simp; try with_reducible rfl)
  try simp only [Act.put, List.setIfInBounds_toArray, List.set_cons_zero, List.set_cons_succ, List.getElem_toArray, List.getElem_cons_zero, List.getElem_cons_succ]
  refine wpAnyP_take (i := 10) (v := ?rpv5r14_10) rfl (by kernel_rfl) (by kernel_rfl) (by kernel_rfl) (fun c a w h => hP c a _ _ w h) (by decide) (by kernel_rfl) (by kernel_rfl) (Or.inl ⟨by rfl, ?rpy5r14_10⟩) (by assumption) ?rpr5r14_10
  case rpy5r14_10 => (intro w hSw; (try dsimp only at hSw); go_simp; try with_reducible rfl)
  try simp only [Act.put, List.setIfInBounds_toArray, List.set_cons_zero, List.set_cons_succ, List.getElem_toArray, List.getElem_cons_zero, List.getElem_cons_succ]
  refine wpAnyP_take (i := 11) (v := ?rpv5r14_11) rfl (by kernel_rfl) (by kernel_rfl) (by kernel_rfl) (fun c a w h => hP c a _ _ w h) (by decide) (by kernel_rfl) (by kernel_rfl) (Or.inl ⟨by rfl, ?rpy5r14_11⟩) (by assumption) ?rpr5r14_11
  case rpy5r14_11 => (intro w hSw; (try dsimp only at hSw); go_simp; try with_reducible rfl)
  try simp only [Act.put, List.setIfInBounds_toArray, List.set_cons_zero, List.set_cons_succ, List.getElem_toArray, List.getElem_cons_zero, List.getElem_cons_succ]
  refine wpAnyP_take (i := 12) (v := ?rpv5r14_12) rfl (by kernel_rfl) (by kernel_rfl) (by kernel_rfl) (fun c a w h => hP c a _ _ w h) (by decide) (by kernel_rfl) (by kernel_rfl) (Or.inl ⟨by rfl, ?rpy5r14_12⟩) (by assumption) ?rpr5r14_12
  case rpy5r14_12 => (intro w hSw; (try dsimp only at hSw); go_simp; try with_reducible rfl)
  try simp only [Act.put, List.setIfInBounds_toArray, List.set_cons_zero, List.set_cons_succ, List.getElem_toArray, List.getElem_cons_zero, List.getElem_cons_succ]
  refine wpAnyP_take (i := 13) (v := ?rpv5r14_13) rfl (by kernel_rfl) (by kernel_rfl) (by kernel_rfl) (fun c a w h => hP c a _ _ w h) (by decide) (by kernel_rfl) (by kernel_rfl) (Or.inl ⟨by rfl, ?rpy5r14_13⟩) (by assumption) ?rpr5r14_13
  case rpy5r14_13 => (intro w hSw; (try dsimp only at hSw); go_simp; try with_reducible rfl)
  try simp only [Act.put, List.setIfInBounds_toArray, List.set_cons_zero, List.set_cons_succ, List.getElem_toArray, List.getElem_cons_zero, List.getElem_cons_succ]
  refine wpAnyP_take (i := 14) (v := ?rpv5r14_14) rfl (by kernel_rfl) (by kernel_rfl) (by kernel_rfl) (fun c a w h => hP c a _ _ w h) (by decide) (by kernel_rfl) (by kernel_rfl) (Or.inl ⟨by rfl, ?rpy5r14_14⟩) (by assumption) ?rpr5r14_14
  case rpy5r14_14 => (intro w hSw; (try dsimp only at hSw); go_simp; try with_reducible rfl)
  try simp only [Act.put, List.setIfInBounds_toArray, List.set_cons_zero, List.set_cons_succ, List.getElem_toArray, List.getElem_cons_zero, List.getElem_cons_succ]
  refine wpAnyP_take (i := 15) (v := ?rpv5r14_15) rfl (by kernel_rfl) (by kernel_rfl) (by kernel_rfl) (fun c a w h => hP c a _ _ w h) (by decide) (by kernel_rfl) (by kernel_rfl) (Or.inl ⟨by rfl, ?rpy5r14_15⟩) (by assumption) ?rpr5r14_15
  case rpy5r14_15 => (intro w hSw; (try dsimp only at hSw); go_simp; try with_reducible rfl)
  try simp only [Act.put, List.setIfInBounds_toArray, List.set_cons_zero, List.set_cons_succ, List.getElem_toArray, List.getElem_cons_zero, List.getElem_cons_succ]
  refine wpAnyP_take (i := 16) (v := ?rpv5r14_16) rfl (by kernel_rfl) (by kernel_rfl) (by kernel_rfl) (fun c a w h => hP c a _ _ w h) (by decide) (by kernel_rfl) (by kernel_rfl) (Or.inl ⟨by rfl, ?rpy5r14_16⟩) (by assumption) ?rpr5r14_16
  case rpy5r14_16 => (intro w hSw; (try dsimp only at hSw); go_simp; try with_reducible rfl)
  try simp only [Act.put, List.setIfInBounds_toArray, List.set_cons_zero, List.set_cons_succ, List.getElem_toArray, List.getElem_cons_zero, List.getElem_cons_succ]
  refine wpAnyP_take (i := 17) (v := ?rpv5r14_17) rfl (by kernel_rfl) (by kernel_rfl) (by kernel_rfl) (fun c a w h => hP c a _ _ w h) (by decide) (by kernel_rfl) (by kernel_rfl) (Or.inl ⟨by rfl, ?rpy5r14_17⟩) (by assumption) ?rpr5r14_17
  case rpy5r14_17 => (intro w hSw; (try dsimp only at hSw); go_simp; try with_reducible rfl)
  try simp only [Act.put, List.setIfInBounds_toArray, List.set_cons_zero, List.set_cons_succ, List.getElem_toArray, List.getElem_cons_zero, List.getElem_cons_succ]
  refine wpAnyP_takep (i := 18) (v := ?rpv5r14_18) rfl (by kernel_rfl) (by kernel_rfl) (by kernel_rfl) (fun c a w h => hP c a _ _ w h) (by decide) (Or.inl ⟨by rfl, ?rpy5r14_18⟩) (fun _ => by assumption) ?rpr5r14_18
  case rpy5r14_18 => (intro w hSw; (try dsimp only at hSw); go_simp; try with_reducible rfl)
  try simp only [Act.put, List.setIfInBounds_toArray, List.set_cons_zero, List.set_cons_succ, List.getElem_toArray, List.getElem_cons_zero, List.getElem_cons_succ]
  refine wpAnyP_takep (i := 19) (v := ?rpv5r14_19) rfl (by kernel_rfl) (by kernel_rfl) (by kernel_rfl) (fun c a w h => hP c a _ _ w h) (by decide) (Or.inl ⟨by rfl, ?rpy5r14_19⟩) (fun _ => by assumption) ?rpr5r14_19
  case rpy5r14_19 => (intro w hSw; (try dsimp only at hSw); go_simp; try with_reducible rfl)
  try simp only [Act.put, List.setIfInBounds_toArray, List.set_cons_zero, List.set_cons_succ, List.getElem_toArray, List.getElem_cons_zero, List.getElem_cons_succ]
  refine wpAnyP_takep (i := 20) (v := ?rpv5r14_20) rfl (by kernel_rfl) (by kernel_rfl) (by kernel_rfl) (fun c a w h => hP c a _ _ w h) (by decide) (Or.inl ⟨by rfl, ?rpy5r14_20⟩) (fun _ => by assumption) ?rpr5r14_20
  case rpy5r14_20 => (intro w hSw; (try dsimp only at hSw); go_simp; try with_reducible rfl)
  try simp only [Act.put, List.setIfInBounds_toArray, List.set_cons_zero, List.set_cons_succ, List.getElem_toArray, List.getElem_cons_zero, List.getElem_cons_succ]
  refine wpAnyP_take (i := 21) (v := ?rpv5r14_21) rfl (by kernel_rfl) (by kernel_rfl) (by kernel_rfl) (fun c a w h => hP c a _ _ w h) (by decide) (by kernel_rfl) (by kernel_rfl) (Or.inl ⟨by rfl, ?rpy5r14_21⟩) (by assumption) ?rpr5r14_21
  case rpy5r14_21 => (intro w hSw; (try dsimp only at hSw); go_simp; try with_reducible rfl)
  try simp only [Act.put, List.setIfInBounds_toArray, List.set_cons_zero, List.set_cons_succ, List.getElem_toArray, List.getElem_cons_zero, List.getElem_cons_succ]
  refine wpAnyP_takep (i := 22) (v := ?rpv5r14_22) rfl (by kernel_rfl) (by kernel_rfl) (by kernel_rfl) (fun c a w h => hP c a _ _ w h) (by decide) (Or.inl ⟨by rfl, ?rpy5r14_22⟩) (fun _ => by assumption) ?rpr5r14_22
  case rpy5r14_22 => (intro w hSw; (try dsimp only at hSw); go_simp; try with_reducible rfl)
  try simp only [Act.put, List.setIfInBounds_toArray, List.set_cons_zero, List.set_cons_succ, List.getElem_toArray, List.getElem_cons_zero, List.getElem_cons_succ]
  refine wpAnyP_takep (i := 23) (v := ?rpv5r14_23) rfl (by kernel_rfl) (by kernel_rfl) (by kernel_rfl) (fun c a w h => hP c a _ _ w h) (by decide) (Or.inl ⟨by rfl, ?rpy5r14_23⟩) (fun _ => by assumption) ?rpr5r14_23
  case rpy5r14_23 => (intro w hSw; (try dsimp only at hSw); go_simp; try with_reducible rfl)
  try simp only [Act.put, List.setIfInBounds_toArray, List.set_cons_zero, List.set_cons_succ, List.getElem_toArray, List.getElem_cons_zero, List.getElem_cons_succ]
  refine wpAnyP_takep (i := 24) (v := ?rpv5r14_24) rfl (by kernel_rfl) (by kernel_rfl) (by kernel_rfl) (fun c a w h => hP c a _ _ w h) (by decide) (Or.inl ⟨by rfl, ?rpy5r14_24⟩) (fun _ => by assumption) ?rpr5r14_24
  case rpy5r14_24 => (intro w hSw; (try dsimp only at hSw); go_simp; try with_reducible rfl)
  try simp only [Act.put, List.setIfInBounds_toArray, List.set_cons_zero, List.set_cons_succ, List.getElem_toArray, List.getElem_cons_zero, List.getElem_cons_succ]
  refine wpAnyP_take (i := 25) (v := ?rpv5r14_25) rfl (by kernel_rfl) (by kernel_rfl) (by kernel_rfl) (fun c a w h => hP c a _ _ w h) (by decide) (by kernel_rfl) (by kernel_rfl) (Or.inl ⟨by rfl, ?rpy5r14_25⟩) (by assumption) ?rpr5r14_25
  case rpy5r14_25 => (intro w hSw; (try dsimp only at hSw); go_simp; try with_reducible rfl)
  try simp only [Act.put, List.setIfInBounds_toArray, List.set_cons_zero, List.set_cons_succ, List.getElem_toArray, List.getElem_cons_zero, List.getElem_cons_succ]
  refine wpAnyP_takep (i := 26) (v := ?rpv5r14_26) rfl (by kernel_rfl) (by kernel_rfl) (by kernel_rfl) (fun c a w h => hP c a _ _ w h) (by decide) (Or.inl ⟨by rfl, ?rpy5r14_26⟩) (fun _ => by assumption) ?rpr5r14_26
  case rpy5r14_26 => (intro w hSw; (try dsimp only at hSw); go_simp; try with_reducible rfl)
  try simp only [Act.put, List.setIfInBounds_toArray, List.set_cons_zero, List.set_cons_succ, List.getElem_toArray, List.getElem_cons_zero, List.getElem_cons_succ]
  refine wpAnyP_takep (i := 27) (v := ?rpv5r14_27) rfl (by kernel_rfl) (by kernel_rfl) (by kernel_rfl) (fun c a w h => hP c a _ _ w h) (by decide) (Or.inl ⟨by rfl, ?rpy5r14_27⟩) (fun _ => by assumption) ?rpr5r14_27
  case rpy5r14_27 => (intro w hSw; (try dsimp only at hSw); go_simp; try with_reducible rfl)
  try simp only [Act.put, List.setIfInBounds_toArray, List.set_cons_zero, List.set_cons_succ, List.getElem_toArray, List.getElem_cons_zero, List.getElem_cons_succ]
  refine wpAnyP_takep (i := 28) (v := ?rpv5r14_28) rfl (by kernel_rfl) (by kernel_rfl) (by kernel_rfl) (fun c a w h => hP c a _ _ w h) (by decide) (Or.inl ⟨by rfl, ?rpy5r14_28⟩) (fun _ => by assumption) ?rpr5r14_28
  case rpy5r14_28 => (intro w hSw; (try dsimp only at hSw); go_simp; try with_reducible rfl)
  try simp only [Act.put, List.setIfInBounds_toArray, List.set_cons_zero, List.set_cons_succ, List.getElem_toArray, List.getElem_cons_zero, List.getElem_cons_succ]
  refine wpAnyP_takep (i := 29) (v := ?rpv5r14_29) rfl (by kernel_rfl) (by kernel_rfl) (by kernel_rfl) (fun c a w h => hP c a _ _ w h) (by decide) (Or.inl ⟨by rfl, ?rpy5r14_29⟩) (fun _ => by assumption) ?rpr5r14_29
  case rpy5r14_29 => (intro w hSw; (try dsimp only at hSw); go_simp; try with_reducible rfl)
  try simp only [Act.put, List.setIfInBounds_toArray, List.set_cons_zero, List.set_cons_succ, List.getElem_toArray, List.getElem_cons_zero, List.getElem_cons_succ]
  refine wpAnyP_take (i := 30) (v := ?rpv5r14_30) rfl (by kernel_rfl) (by kernel_rfl) (by kernel_rfl) (fun c a w h => hP c a _ _ w h) (by decide) (by kernel_rfl) (by kernel_rfl) (Or.inl ⟨by rfl, ?rpy5r14_30⟩) (by assumption) ?rpr5r14_30
  case rpy5r14_30 => (intro w hSw; (try dsimp only at hSw); go_simp; try with_reducible rfl)
  try simp only [Act.put, List.setIfInBounds_toArray, List.set_cons_zero, List.set_cons_succ, List.getElem_toArray, List.getElem_cons_zero, List.getElem_cons_succ]
  refine wpAnyP_takep (i := 31) (v := ?rpv5r14_31) rfl (by kernel_rfl) (by kernel_rfl) (by kernel_rfl) (fun c a w h => hP c a _ _ w h) (by decide) (Or.inl ⟨by rfl, ?rpy5r14_31⟩) (fun _ => by assumption) ?rpr5r14_31
  case rpy5r14_31 => (intro w hSw; (try dsimp only at hSw); go_simp; try with_reducible rfl)
  try simp only [Act.put, List.setIfInBounds_toArray, List.set_cons_zero, List.set_cons_succ, List.getElem_toArray, List.getElem_cons_zero, List.getElem_cons_succ]
  refine wpAnyP_takep (i := 32) (v := ?rpv5r14_32) rfl (by kernel_rfl) (by kernel_rfl) (by kernel_rfl) (fun c a w h => hP c a _ _ w h) (by decide) (Or.inl ⟨by rfl, ?rpy5r14_32⟩) (fun _ => by assumption) ?rpr5r14_32
  case rpy5r14_32 => (intro w hSw; (try dsimp only at hSw); go_simp; try with_reducible rfl)
  try simp only [Act.put, List.setIfInBounds_toArray, List.set_cons_zero, List.set_cons_succ, List.getElem_toArray, List.getElem_cons_zero, List.getElem_cons_succ]
  refine wpAnyP_take (i := 33) (v := ?rpv5r14_33) rfl (by kernel_rfl) (by kernel_rfl) (by kernel_rfl) (fun c a w h => hP c a _ _ w h) (by decide) (by kernel_rfl) (by kernel_rfl) (Or.inl ⟨by rfl, ?rpy5r14_33⟩) (by assumption) ?rpr5r14_33
  case rpy5r14_33 => (intro w hSw; (try dsimp only at hSw); go_simp; try with_reducible rfl)
  try simp only [Act.put, List.setIfInBounds_toArray, List.set_cons_zero, List.set_cons_succ, List.getElem_toArray, List.getElem_cons_zero, List.getElem_cons_succ]
  refine wpAnyP_one (i := 34) (by kernel_rfl) rfl (by kernel_rfl) (fun K hK => ?_)
  go_simp
  refine hK.out _ _ ?_
  clear hK K
  try simp only [Act.put, List.setIfInBounds_toArray, List.set_cons_zero, List.set_cons_succ, List.getElem_toArray, List.getElem_cons_zero, List.getElem_cons_succ]
  refine wpAnyP_takep (i := 35) (v := ?rpv5r14_35) rfl (by kernel_rfl) (by kernel_rfl) (by kernel_rfl) (fun c a w h => hP c a _ _ w h) (by decide) (Or.inl ⟨by rfl, ?rpy5r14_35⟩) (fun h => nomatch (h.symm.trans (by kernel_rfl) : false = true)) ?rpr5r14_35
  case rpy5r14_35 => (intro w hSw; (try dsimp only at hSw); go_simp; try with_reducible rfl)
  try simp only [Act.put, List.setIfInBounds_toArray, List.set_cons_zero, List.set_cons_succ, List.getElem_toArray, List.getElem_cons_zero, List.getElem_cons_succ]
  refine wpAnyP_one (i := 36) (by kernel_rfl) rfl (by kernel_rfl) (fun K hK => ?_)
  go_simp
  refine hK.out _ _ ?_
  clear hK K
  try simp only [Act.put, List.setIfInBounds_toArray, List.set_cons_zero, List.set_cons_succ, List.getElem_toArray, List.getElem_cons_zero, List.getElem_cons_succ]
  refine wpAnyP_done (by kernel_rfl) ?_ _
  refine hQ _ _ _ _ _ _ _ _ _ _ _ _ _ _ _ _ _ _ _ _ _ _ _ _ _ _ _ _ _ _ _ _ _ _ _
set_option maxRecDepth 100000 in
set_option maxHeartbeats 16000000 in
theorem re28 {wr : World} {ad B a1 : Addr} {n2 c2 c K i k m d : Nat} {x y p q : Int}
    (hK : K ≤ 100000) (hk : k < K) (hi : i < n2) (hm : 2 * k + 1 < m) (hx : -128 ≤ x ∧ x ≤ 127) (hy : -128 ≤ y ∧ y ≤ 127) (hp : -10000 ≤ p ∧ p ≤ 10000) (hq : -10000 ≤ q ∧ q ≤ 10000)
    (h1 : wr.cell? (ad.add i) = some (.slice (some B) m d)) (h2 : wr.cell? (B.add (2 * k)) = some (.int .i8 x)) (h3 : wr.cell? ⟨B.block, B.off + (2 * k + 1), none⟩ = some (.int .i8 y))
    (h4 : wr.cell? (a1.add k) = some (.complex .f64 (FI p) (FI q))) (z4 : wr.frozen? (a1.add k) = false) (hlt : a1.block < wr.heap.size)
    {Q : Exit → Act → World → Prop} {u0 u2 u3 u4 u5 u6 u7 u8 u9 u10 u11 u12 u13 u14 u18 u19 u20 u21 u22 u23 u24 u25 u26 u27 u28 u29 u30 u31 u32 u33 u34 u35 u36 u37 u38 u39 u40 u41 u42 u43 u44 u45 u46 u47 u48 u49 u50 u51 u52 u53 u54 u55 u56 u57 u58 u59 u60 u61 u62 u63 u64 u65 u66 u67 u68 u69 u70 u71 u72 u73 u74 u75 u76 u77 u78 u79 u80 u81 u82 u83 u84 u85 u86 u87 u88 u89 u90 u91 u92 u93 u94 u95 u96 u97 u98 u99 u100 u101 u102 u103 u104 u105 u106 u107 u108 u109 u110 u111 u112 u113 u114 u115 u116 u117 u118 u119 u120 u121 u122 u123 u124 u125 u126 u127 u128 u129 u130 u131 u132 u133 u134 u135 u136 u137 u138 u139 u140 u141 u142 u143 u144 u145 u146 u147 u148 u149 u150 u151 u152 u153 u154 u155 u156 u157 u158 u159 u160 u161 u162 u163 u164 u165 u166 u167 u168 u169 u170 u171 u172 u173 u174 u175 u176 u177 u178 u179 u180 u181 u182 u183 u184 u185 u186 u187 u188 u189 u190 u191 u192 u193 u194 u195 u196 u197 u198 u199 u200 u201 u202 u203 u204 u205 u206 u207 u208 u209 u210 u211 u212 u213 u214 u215 u216 u217 u218 u219 u220 u221 u222 u223 u224 u225 u226 u227 u228 u229 u230 u231 u232 u233 u234 u235 u236 u237 u238 u239 u240 u241 u242 u243 u244 u245 u246 u247 u248 u249 u250 u251 u252 u253 u254 u255 u256 u257 u258 u259 : Value}
    (hP : ∀ c (a : Act) (d : Nat) v w, Q (.panic c) (a.put (some d) v) w → Q (.panic c) a w)
    (hQ : ∀ (v202 v203 v204 v205 v206 v207 v208 v209 v210 v211 v212 v213 v214 v215 v216 v217 v218 v219 v220 v221 v222 v223 v224 v225 v226 v227 v228 v229 : Value), Q .normal ⟨#[u0, .slice (some ad) n2 c2, u2, u3, u4, u5, u6, u7, u8, u9, u10, u11, u12, u13, u14, .int .i64 (i : Int), .slice (some a1) K c, .int .i64 (k : Int), u18, u19, u20, u21, u22, u23, u24, u25, u26, u27, u28, u29, u30, u31, u32, u33, u34, u35, u36, u37, u38, u39, u40, u41, u42, u43, u44, u45, u46, u47, u48, u49, u50, u51, u52, u53, u54, u55, u56, u57, u58, u59, u60, u61, u62, u63, u64, u65, u66, u67, u68, u69, u70, u71, u72, u73, u74, u75, u76, u77, u78, u79, u80, u81, u82, u83, u84, u85, u86, u87, u88, u89, u90, u91, u92, u93, u94, u95, u96, u97, u98, u99, u100, u101, u102, u103, u104, u105, u106, u107, u108, u109, u110, u111, u112, u113, u114, u115, u116, u117, u118, u119, u120, u121, u122, u123, u124, u125, u126, u127, u128, u129, u130, u131, u132, u133, u134, u135, u136, u137, u138, u139, u140, u141, u142, u143, u144, u145, u146, u147, u148, u149, u150, u151, u152, u153, u154, u155, u156, u157, u158, u159, u160, u161, u162, u163, u164, u165, u166, u167, u168, u169, u170, u171, u172, u173, u174, u175, u176, u177, u178, u179, u180, u181, u182, u183, u184, u185, u186, u187, u188, u189, u190, u191, u192, u193, u194, u195, u196, u197, u198, u199, u200, u201, v202, v203, v204, v205, v206, v207, v208, v209, v210, v211, v212, v213, v214, v215, v216, v217, v218, v219, v220, v221, v222, v223, v224, v225, v226, v227, v228, v229, u230, u231, u232, u233, u234, u235, u236, u237, u238, u239, u240, u241, u242, u243, u244, u245, u246, u247, u248, u249, u250, u251, u252, u253, u254, u255, u256, u257, u258, u259], []⟩ (wr.setCell (a1.add k) (cx (p + x, q + y))).drew) :
    Code.wp Try.prog (cL (cL (cR (cL (cL (cR (cL (cR (cL (cL (cR (cL (cL (cR (cL (cR (cR (cR (cR (cR (cR (cR (cR (Try.f5.body.getD .skip)))))))))))))))))))))))) Q ⟨#[u0, .slice (some ad) n2 c2, u2, u3, u4, u5, u6, u7, u8, u9, u10, u11, u12, u13, u14, .int .i64 (i : Int), .slice (some a1) K c, .int .i64 (k : Int), u18, u19, u20, u21, u22, u23, u24, u25, u26, u27, u28, u29, u30, u31, u32, u33, u34, u35, u36, u37, u38, u39, u40, u41, u42, u43, u44, u45, u46, u47, u48, u49, u50, u51, u52, u53, u54, u55, u56, u57, u58, u59, u60, u61, u62, u63, u64, u65, u66, u67, u68, u69, u70, u71, u72, u73, u74, u75, u76, u77, u78, u79, u80, u81, u82, u83, u84, u85, u86, u87, u88, u89, u90, u91, u92, u93, u94, u95, u96, u97, u98, u99, u100, u101, u102, u103, u104, u105, u106, u107, u108, u109, u110, u111, u112, u113, u114, u115, u116, u117, u118, u119, u120, u121, u122, u123, u124, u125, u126, u127, u128, u129, u130, u131, u132, u133, u134, u135, u136, u137, u138, u139, u140, u141, u142, u143, u144, u145, u146, u147, u148, u149, u150, u151, u152, u153, u154, u155, u156, u157, u158, u159, u160, u161, u162, u163, u164, u165, u166, u167, u168, u169, u170, u171, u172, u173, u174, u175, u176, u177, u178, u179, u180, u181, u182, u183, u184, u185, u186, u187, u188, u189, u190, u191, u192, u193, u194, u195, u196, u197, u198, u199, u200, u201, u202, u203, u204, u205, u206, u207, u208, u209, u210, u211, u212, u213, u214, u215, u216, u217, u218, u219, u220, u221, u222, u223, u224, u225, u226, u227, u228, u229, u230, u231, u232, u233, u234, u235, u236, u237, u238, u239, u240, u241, u242, u243, u244, u245, u246, u247, u248, u249, u250, u251, u252, u253, u254, u255, u256, u257, u258, u259], []⟩ wr := by
  have k0 : (0 : Int) ≤ (k : Int) := Int.natCast_nonneg _
  have i0' : (0 : Int) ≤ (i : Int) := Int.natCast_nonneg _
  have k1 : (k : Int) < (K : Int) := by omega
  have i1 : (i : Int) < (n2 : Int) := by omega
  have k2 : 2 * (k : Int) + 1 < (m : Int) := by omega
  have k3 : 2 * (k : Int) < (m : Int) := by omega
  have k5 : (k : Int) ≤ 100000 := by omega
  have k6 : (0 : Int) ≤ 2 * (k : Int) := by omega
  have k7 : (0 : Int) ≤ 2 * (k : Int) + 1 := by omega
  have tn1 : (2 * (k : Int)).toNat = 2 * k := by omega
  have tn2 : (2 * (k : Int) + 1).toNat = 2 * k + 1 := by omega
  have pw1 : IntKind.i64.wrap (2 * (k : Int)) = 2 * (k : Int) := IntWalk.i64_in _ ⟨by omega, by omega⟩
  have pw2 : IntKind.i64.wrap (2 * (k : Int) + 1) = 2 * (k : Int) + 1 := IntWalk.i64_in _ ⟨by omega, by omega⟩
  have ww1 : wrap64 (2 * (k : Int)) = 2 * (k : Int) := IntWalk.wrap64_in _ ⟨by omega, by omega⟩
  have ww2 : wrap64 (2 * (k : Int) + 1) = 2 * (k : Int) + 1 := IntWalk.wrap64_in _ ⟨by omega, by omega⟩
  have px : IntKind.i64.wrap x = x := IntWalk.i64_in _ ⟨by omega, by omega⟩
  have py : IntKind.i64.wrap y = y := IntWalk.i64_in _ ⟨by omega, by omega⟩
  have wx : wrap64 x = x := IntWalk.wrap64_in _ ⟨by omega, by omega⟩
  have wy : wrap64 y = y := IntWalk.wrap64_in _ ⟨by omega, by omega⟩
  have hadd : ∀ w', (binOp .add 61 (.complex .f64 (FI p) (FI q)) (.complex .f64 (floatOfInt .f64 x) (floatOfInt .f64 y))).run Try.prog w' = .ok (.complex .f64 (FI (p + x)) (FI (q + y))) w' := fun w' => add_run p q x y (by omega) (by omega) (by omega) (by omega) 61 w'
  have hst := store_cx
  unfold Try.f5
  dsimp only [cL, cR, Option.getD_some]
  refine wp_region_P (S := fun w' => w'.cell? (ad.add i) = some (.slice (some B) m d) ∧ w'.cell? (B.add (2 * k)) = some (.int .i8 x) ∧ w'.cell? ⟨B.block, B.off + (2 * k + 1), none⟩ = some (.int .i8 y) ∧ w'.cell? (a1.add k) = some (.complex .f64 (FI p) (FI q))) 28 (by kernel_rfl) ⟨h1, h2, h3, h4⟩ (fun hHeld => ?_)
  refine wpAnyP_take (i := 0) (v := ?rpv5r28_0) rfl (by kernel_rfl) (by kernel_rfl) (by kernel_rfl) (fun c a w h => hP c a _ _ w h) (by decide) (by kernel_rfl) (by kernel_rfl) (Or.inl ⟨by rfl, ?rpy5r28_0⟩) (by assumption) ?rpr5r28_0
  case rpy5r28_0 => (intro w hSw; (try dsimp only at hSw); go_simp; try with_reducible rfl)
  try simp only [Act.put, List.setIfInBounds_toArray, List.set_cons_zero, List.set_cons_succ, List.getElem_toArray, List.getElem_cons_zero, List.getElem_cons_succ]
  refine wpAnyP_take (i := 1) (v := ?rpv5r28_1) rfl (by kernel_rfl) (by kernel_rfl) (by kernel_rfl) (fun c a w h => hP c a _ _ w h) (by decide) (by kernel_rfl) (by kernel_rfl) (Or.inl ⟨by rfl, ?rpy5r28_1⟩) (by assumption) ?rpr5r28_1
  case rpy5r28_1 => (intro w hSw; (try dsimp only at hSw); go_simp; try with_reducible rfl)
  try simp only [Act.put, List.setIfInBounds_toArray, List.set_cons_zero, List.set_cons_succ, List.getElem_toArray, List.getElem_cons_zero, List.getElem_cons_succ]
  refine wpAnyP_take (i := 2) (v := ?rpv5r28_2) rfl (by kernel_rfl) (by kernel_rfl) (by kernel_rfl) (fun c a w h => hP c a _ _ w h) (by decide) (by kernel_rfl) (by kernel_rfl) (Or.inl ⟨by rfl, ?rpy5r28_2⟩) (by assumption) ?rpr5r28_2
  case rpy5r28_2 => (intro w hSw; (try dsimp only at hSw); go_simp; try with_reducible rfl)
  try simp only [Act.put, List.setIfInBounds_toArray, List.set_cons_zero, List.set_cons_succ, List.getElem_toArray, List.getElem_cons_zero, List.getElem_cons_succ]
  refine wpAnyP_take (i := 3) (v := ?rpv5r28_3) rfl (by kernel_rfl) (by kernel_rfl) (by kernel_rfl) (fun c a w h => hP c a _ _ w h) (by decide) (by kernel_rfl) (by kernel_rfl) (Or.inl ⟨by rfl, ?rpy5r28_3⟩) (by assumption) ?rpr5r28_3
  case rpy5r28_3 => (intro w hSw; (try dsimp only at hSw); go_simp; try with_reducible rfl)
  try simp only [Act.put, List.setIfInBounds_toArray, List.set_cons_zero, List.set_cons_succ, List.getElem_toArray, List.getElem_cons_zero, List.getElem_cons_succ]
  refine wpAnyP_take (i := 4) (v := ?rpv5r28_4) rfl (by kernel_rfl) (by kernel_rfl) (by kernel_rfl) (fun c a w h => hP c a _ _ w h) (by decide) (by kernel_rfl) (by kernel_rfl) (Or.inl ⟨by rfl, ?rpy5r28_4⟩) (by assumption) ?rpr5r28_4
  case rpy5r28_4 => (intro w hSw; (try dsimp only at hSw); go_simp; try with_reducible rfl)
  try simp only [Act.put, List.setIfInBounds_toArray, List.set_cons_zero, List.set_cons_succ, List.getElem_toArray, List.getElem_cons_zero, List.getElem_cons_succ]
  refine wpAnyP_take (i := 5) (v := ?rpv5r28_5) rfl (by kernel_rfl) (by kernel_rfl) (by kernel_rfl) (fun c a w h => hP c a _ _ w h) (by decide) (by kernel_rfl) (by kernel_rfl) (Or.inl ⟨by rfl, ?rpy5r28_5⟩) (by assumption) ?rpr5r28_5
  case rpy5r28_5 => (intro w hSw; (try dsimp only at hSw); go_simp; try with_reducible rfl)
  try simp only [Act.put, List.setIfInBounds_toArray, List.set_cons_zero, List.set_cons_succ, List.getElem_toArray, List.getElem_cons_zero, List.getElem_cons_succ]
  refine wpAnyP_take (i := 6) (v := ?rpv5r28_6) rfl (by kernel_rfl) (by kernel_rfl) (by kernel_rfl) (fun c a w h => hP c a _ _ w h) (by decide) (by kernel_rfl) (by kernel_rfl) (Or.inl ⟨by rfl, ?rpy5r28_6⟩) (by assumption) ?rpr5r28_6
  case rpy5r28_6 => (intro w hSw; (try dsimp only at hSw); go_simp; try with_reducible rfl)
  try simp only [Act.put, List.setIfInBounds_toArray, List.set_cons_zero, List.set_cons_succ, List.getElem_toArray, List.getElem_cons_zero, List.getElem_cons_succ]
  refine wpAnyP_take (i := 7) (v := ?rpv5r28_7) rfl (by kernel_rfl) (by kernel_rfl) (by kernel_rfl) (fun c a w h => hP c a _ _ w h) (by decide) (by kernel_rfl) (by kernel_rfl) (Or.inl ⟨by rfl, ?rpy5r28_7⟩) (by assumption) ?rpr5r28_7
  case rpy5r28_7 => (intro w hSw; (try dsimp only at hSw); go_simp; try with_reducible rfl)
  try simp only [Act.put, List.setIfInBounds_toArray, List.set_cons_zero, List.set_cons_succ, List.getElem_toArray, List.getElem_cons_zero, List.getElem_cons_succ]
  refine wpAnyP_take (i := 8) (v := ?rpv5r28_8) rfl (by kernel_rfl) (by kernel_rfl) (by kernel_rfl) (fun c a w h => hP c a _ _ w h) (by decide) (by kernel_rfl) (by kernel_rfl) (Or.inl ⟨by rfl, ?rpy5r28_8⟩) (by assumption) ?rpr5r28_8
  case rpy5r28_8 => (intro w hSw; (try dsimp only at hSw); go_simp; try with_reducible rfl)
  try simp only [Act.put, List.setIfInBounds_toArray, List.set_cons_zero, List.set_cons_succ, List.getElem_toArray, List.getElem_cons_zero, List.getElem_cons_succ]
  refine wpAnyP_take (i := 9) (v := ?rpv5r28_9) rfl (by kernel_rfl) (by kernel_rfl) (by kernel_rfl) (fun c a w h => hP c a _ _ w h) (by decide) (by kernel_rfl) (by kernel_rfl) (Or.inl ⟨by rfl, ?rpy5r28_9⟩) (by assumption) ?rpr5r28_9
  case rpy5r28_9 => (intro w hSw; (try dsimp only at hSw); go_simp; try with_reducible rfl)
  try simp only [Act.put, List.setIfInBounds_toArray, List.set_cons_zero, List.set_cons_succ, List.getElem_toArray, List.getElem_cons_zero, List.getElem_cons_succ]
  refine wpAnyP_take (i := 10) (v := ?rpv5r28_10) rfl (by kernel_rfl) (by kernel_rfl) (by kernel_rfl) (fun c a w h => hP c a _ _ w h) (by decide) (by kernel_rfl) (by kernel_rfl) (Or.inl ⟨by rfl, ?rpy5r28_10⟩) (by assumption) ?rpr5r28_10
  case rpy5r28_10 => (intro w hSw; (try dsimp only at hSw); go_simp; try with_reducible rfl)
  try simp only [Act.put, List.setIfInBounds_toArray, List.set_cons_zero, List.set_cons_succ, List.getElem_toArray, List.getElem_cons_zero, List.getElem_cons_succ]
  refine wpAnyP_take (i := 11) (v := ?rpv5r28_11) rfl (by kernel_rfl) (by kernel_rfl) (by kernel_rfl) (fun c a w h => hP c a _ _ w h) (by decide) (by kernel_rfl) (by kernel_rfl) (Or.inl ⟨by rfl, ?rpy5r28_11⟩) (by assumption) ?rpr5r28_11
  case rpy5r28_11 => (intro w hSw; (try dsimp only at hSw); go_simp; try with_reducible rfl)
  try simp only [Act.put, List.setIfInBounds_toArray, List.set_cons_zero, List.set_cons_succ, List.getElem_toArray, List.getElem_cons_zero, List.getElem_cons_succ]
  refine wpAnyP_take (i := 12) (v := ?rpv5r28_12) rfl (by kernel_rfl) (by kernel_rfl) (by kernel_rfl) (fun c a w h => hP c a _ _ w h) (by decide) (by kernel_rfl) (by kernel_rfl) (Or.inl ⟨by rfl, ?rpy5r28_12⟩) (by assumption) ?rpr5r28_12
  case rpy5r28_12 => (intro w hSw; (try dsimp only at hSw); go_simp; try with_reducible rfl)
  try simp only [Act.put, List.setIfInBounds_toArray, List.set_cons_zero, List.set_cons_succ, List.getElem_toArray, List.getElem_cons_zero, List.getElem_cons_succ]
  refine wpAnyP_take (i := 13) (v := ?rpv5r28_13) rfl (by kernel_rfl) (by kernel_rfl) (by kernel_rfl) (fun c a w h => hP c a _ _ w h) (by decide) (by kernel_rfl) (by kernel_rfl) (Or.inl ⟨by rfl, ?rpy5r28_13⟩) (by assumption) ?rpr5r28_13
  case rpy5r28_13 => (intro w hSw; (try dsimp only at hSw); go_simp; try with_reducible rfl)
  try simp only [Act.put, List.setIfInBounds_toArray, List.set_cons_zero, List.set_cons_succ, List.getElem_toArray, List.getElem_cons_zero, List.getElem_cons_succ]
  refine wpAnyP_take (i := 14) (v := ?rpv5r28_14) rfl (by kernel_rfl) (by kernel_rfl) (by kernel_rfl) (fun c a w h => hP c a _ _ w h) (by decide) (by kernel_rfl) (by kernel_rfl) (Or.inl ⟨by rfl, ?rpy5r28_14⟩) (by assumption) ?rpr5r28_14
  case rpy5r28_14 => (intro w hSw; (try dsimp only at hSw); go_simp; try with_reducible rfl)
  try simp only [Act.put, List.setIfInBounds_toArray, List.set_cons_zero, List.set_cons_succ, List.getElem_toArray, List.getElem_cons_zero, List.getElem_cons_succ]
  refine wpAnyP_take (i := 15) (v := ?rpv5r28_15) rfl (by kernel_rfl) (by kernel_rfl) (by kernel_rfl) (fun c a w h => hP c a _ _ w h) (by decide) (by kernel_rfl) (by kernel_rfl) (Or.inl ⟨by rfl, ?rpy5r28_15⟩) (by assumption) ?rpr5r28_15
  case rpy5r28_15 => (intro w hSw; (try dsimp only at hSw); go_simp; try with_reducible rfl)
  try simp only [Act.put, List.setIfInBounds_toArray, List.set_cons_zero, List.set_cons_succ, List.getElem_toArray, List.getElem_cons_zero, List.getElem_cons_succ]
  refine wpAnyP_take (i := 16) (v := ?rpv5r28_16) rfl (by kernel_rfl) (by kernel_rfl) (by kernel_rfl) (fun c a w h => hP c a _ _ w h) (by decide) (by kernel_rfl) (by kernel_rfl) (Or.inl ⟨by rfl, ?rpy5r28_16⟩) (by assumption) ?rpr5r28_16
  case rpy5r28_16 => (intro w hSw; (try dsimp only at hSw); go_simp; try with_reducible rfl)
  try simp only [Act.put, List.setIfInBounds_toArray, List.set_cons_zero, List.set_cons_succ, List.getElem_toArray, List.getElem_cons_zero, List.getElem_cons_succ]
  refine wpAnyP_take (i := 17) (v := ?rpv5r28_17) rfl (by kernel_rfl) (by kernel_rfl) (by kernel_rfl) (fun c a w h => hP c a _ _ w h) (by decide) (by kernel_rfl) (by kernel_rfl) (Or.inl ⟨by rfl, ?rpy5r28_17⟩) (by assumption) ?rpr5r28_17
  case rpy5r28_17 => (intro w hSw; (try dsimp only at hSw); go_simp; try with_reducible rfl)
  try simp only [Act.put, List.setIfInBounds_toArray, List.set_cons_zero, List.set_cons_succ, List.getElem_toArray, List.getElem_cons_zero, List.getElem_cons_succ]
  refine wpAnyP_take (i := 18) (v := ?rpv5r28_18) rfl (by kernel_rfl) (by kernel_rfl) (by kernel_rfl) (fun c a w h => hP c a _ _ w h) (by decide) (by kernel_rfl) (by kernel_rfl) (Or.inl ⟨by rfl, ?rpy5r28_18⟩) (by assumption) ?rpr5r28_18
  case rpy5r28_18 => (intro w hSw; (try dsimp only at hSw); go_simp; try with_reducible rfl)
  try simp only [Act.put, List.setIfInBounds_toArray, List.set_cons_zero, List.set_cons_succ, List.getElem_toArray, List.getElem_cons_zero, List.getElem_cons_succ]
  refine wpAnyP_take (i := 19) (v := ?rpv5r28_19) rfl (by kernel_rfl) (by kernel_rfl) (by kernel_rfl) (fun c a w h => hP c a _ _ w h) (by decide) (by kernel_rfl) (by kernel_rfl) (Or.inl ⟨by rfl, ?rpy5r28_19⟩) (by assumption) ?rpr5r28_19
  case rpy5r28_19 => (intro w hSw; (try dsimp only at hSw); go_simp; try with_reducible rfl)
  try simp only [Act.put, List.setIfInBounds_toArray, List.set_cons_zero, List.set_cons_succ, List.getElem_toArray, List.getElem_cons_zero, List.getElem_cons_succ]
  refine wpAnyP_take (i := 20) (v := ?rpv5r28_20) rfl (by kernel_rfl) (by kernel_rfl) (by kernel_rfl) (fun c a w h => hP c a _ _ w h) (by decide) (by kernel_rfl) (by kernel_rfl) (Or.inl ⟨by rfl, ?rpy5r28_20⟩) (by assumption) ?rpr5r28_20
  case rpy5r28_20 => (intro w hSw; (try dsimp only at hSw); go_simp; try with_reducible rfl)
  try simp only [Act.put, List.setIfInBounds_toArray, List.set_cons_zero, List.set_cons_succ, List.getElem_toArray, List.getElem_cons_zero, List.getElem_cons_succ]
  refine wpAnyP_take (i := 21) (v := ?rpv5r28_21) rfl (by kernel_rfl) (by kernel_rfl) (by kernel_rfl) (fun c a w h => hP c a _ _ w h) (by decide) (by kernel_rfl) (by kernel_rfl) (Or.inl ⟨by rfl, ?rpy5r28_21⟩) (by assumption) ?rpr5r28_21
  case rpy5r28_21 => (intro w hSw; (try dsimp only at hSw); go_simp; try with_reducible rfl)
  try simp only [Act.put, List.setIfInBounds_toArray, List.set_cons_zero, List.set_cons_succ, List.getElem_toArray, List.getElem_cons_zero, List.getElem_cons_succ]
  refine wpAnyP_take (i := 22) (v := ?rpv5r28_22) rfl (by kernel_rfl) (by kernel_rfl) (by kernel_rfl) (fun c a w h => hP c a _ _ w h) (by decide) (by kernel_rfl) (by kernel_rfl) (Or.inl ⟨by rfl, ?rpy5r28_22⟩) (by assumption) ?rpr5r28_22
  case rpy5r28_22 => (intro w hSw; (try dsimp only at hSw); go_simp; try with_reducible rfl)
  try simp only [Act.put, List.setIfInBounds_toArray, List.set_cons_zero, List.set_cons_succ, List.getElem_toArray, List.getElem_cons_zero, List.getElem_cons_succ]
  refine wpAnyP_take (i := 23) (v := ?rpv5r28_23) rfl (by kernel_rfl) (by kernel_rfl) (by kernel_rfl) (fun c a w h => hP c a _ _ w h) (by decide) (by kernel_rfl) (by kernel_rfl) (Or.inl ⟨by rfl, ?rpy5r28_23⟩) (by assumption) ?rpr5r28_23
  case rpy5r28_23 => (intro w hSw; (try dsimp only at hSw); go_simp; try with_reducible rfl)
  try simp only [Act.put, List.setIfInBounds_toArray, List.set_cons_zero, List.set_cons_succ, List.getElem_toArray, List.getElem_cons_zero, List.getElem_cons_succ]
  refine wpAnyP_take (i := 24) (v := ?rpv5r28_24) rfl (by kernel_rfl) (by kernel_rfl) (by kernel_rfl) (fun c a w h => hP c a _ _ w h) (by decide) (by kernel_rfl) (by kernel_rfl) (Or.inl ⟨by rfl, ?rpy5r28_24⟩) (by assumption) ?rpr5r28_24
  case rpy5r28_24 => (intro w hSw; (try dsimp only at hSw); go_simp; try with_reducible rfl)
  try simp only [Act.put, List.setIfInBounds_toArray, List.set_cons_zero, List.set_cons_succ, List.getElem_toArray, List.getElem_cons_zero, List.getElem_cons_succ]
  refine wpAnyP_take (i := 25) (v := ?rpv5r28_25) rfl (by kernel_rfl) (by kernel_rfl) (by kernel_rfl) (fun c a w h => hP c a _ _ w h) (by decide) (by kernel_rfl) (by kernel_rfl) (Or.inl ⟨by rfl, ?rpy5r28_25⟩) (by assumption) ?rpr5r28_25
  case rpy5r28_25 => (intro w hSw; (try dsimp only at hSw); go_simp; try with_reducible rfl)
  try simp only [Act.put, List.setIfInBounds_toArray, List.set_cons_zero, List.set_cons_succ, List.getElem_toArray, List.getElem_cons_zero, List.getElem_cons_succ]
  refine wpAnyP_take (i := 26) (v := ?rpv5r28_26) rfl (by kernel_rfl) (by kernel_rfl) (by kernel_rfl) (fun c a w h => hP c a _ _ w h) (by decide) (by kernel_rfl) (by kernel_rfl) (Or.inl ⟨by rfl, ?rpy5r28_26⟩) (by assumption) ?rpr5r28_26
  case rpy5r28_26 => (intro w hSw; (try dsimp only at hSw); go_simp; try with_reducible rfl)
  try simp only [Act.put, List.setIfInBounds_toArray, List.set_cons_zero, List.set_cons_succ, List.getElem_toArray, List.getElem_cons_zero, List.getElem_cons_succ]
  refine wpAnyP_take (i := 27) (v := ?rpv5r28_27) rfl (by kernel_rfl) (by kernel_rfl) (by kernel_rfl) (fun c a w h => hP c a _ _ w h) (by decide) (by kernel_rfl) (by kernel_rfl) (Or.inl ⟨by rfl, ?rpy5r28_27⟩) (by assumption) ?rpr5r28_27
  case rpy5r28_27 => (intro w hSw; (try dsimp only at hSw); go_simp; try with_reducible rfl)
  try simp only [Act.put, List.setIfInBounds_toArray, List.set_cons_zero, List.set_cons_succ, List.getElem_toArray, List.getElem_cons_zero, List.getElem_cons_succ]
  refine wpAnyP_one (i := 28) (by kernel_rfl) rfl (by kernel_rfl) (fun K hK => ?_)
  go_simp
  refine hK.out _ _ ?_
  clear hK K
  try simp only [Act.put, List.setIfInBounds_toArray, List.set_cons_zero, List.set_cons_succ, List.getElem_toArray, List.getElem_cons_zero, List.getElem_cons_succ]
  refine wpAnyP_done (by kernel_rfl) ?_ _
  refine hQ _ _ _ _ _ _ _ _ _ _ _ _ _ _ _ _ _ _ _ _ _ _ _ _ _ _ _ _
end Go.Proofs.Ytcdjofneijlbgaa.A
