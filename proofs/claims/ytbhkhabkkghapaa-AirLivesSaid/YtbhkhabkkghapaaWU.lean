/- AirLives' walk: the calls of both ways, one region a kind. -/
import Derived.Test.YtbhkhabkkghapaaWT
import Derived.Test.YtbhkhabkkghapaaWJ
import Derived.Deep.CutBlock
import Derived.Deep.DeepCutAuto
namespace Go.Proofs.Ytbhkhabkkghapaa.A
open Go.RowKit Go.Proofs.Ytbhkhabkkghapaa.K Go.Proofs.Ytbhkhabkkghapaa.N Go.Proofs.Ytbhkhabkkghapaa.F
set_option linter.unusedVariables false
set_option linter.unusedSimpArgs false

/-- Rows that do not share a block. -/
def Apart (k kx : Option Nat) : Prop := ∀ x, k = some x → kx = some x → False
theorem IsR.kb {w : World} {B g : Nat} {k : Option Nat} {L : List (List Nat)} {se lo : Int} (h : IsR w B g k L se lo) {x : Nat} (hx : k = some x) : B ≤ x ∧ ∃ cs, Blk w x cs 22 := by
  obtain ⟨_, v, S, _, hr⟩ := h
  exact hr.blk hx
theorem IsW.kb2 {w : World} {B g : Nat} {k : Option Nat} {L : List (List Nat)} {se lo : Int} (h : IsW w B g k L se lo) {x : Nat} (hx : k = some x) : B ≤ x ∧ ∃ cs, Blk w x cs 22 := by
  obtain ⟨_, v, S, _, hr⟩ := h
  exact hr.blk hx
theorem mid_ {w wo w3 : World} {g gx : Nat} {k k3 kx : Option Nat} {L : List (List Nat)} {se lo : Int} (W1 : IsW wo g g k L se lo) (X1 : IsR wo g gx kx L se lo) (ap : Apart k kx) (F1 : Frm No w wo) (hg : w.heap.size ≤ g) (a3 : Anew wo k k3) (f3 : Frm (fun x => x = g ∨ k = some x) wo w3) :
    IsR w3 g gx kx L se lo ∧ Apart k3 kx ∧ Frm No w w3 ∧ (∀ go cs, Blk wo go cs 41 → Blk w3 go cs 41) ∧ (∀ b l, IsB wo b l → IsB w3 b l) := by
  have hgb : ∃ cs, Blk wo g cs 48 := by obtain ⟨_, v, S, hb, _⟩ := W1; exact ⟨_, hb⟩
  have hxb : ∃ cs, Blk wo gx cs 39 := by obtain ⟨_, v, S, hb, _⟩ := X1; exact ⟨_, hb⟩
  obtain ⟨cg, hgb⟩ := hgb
  obtain ⟨cx, hxb⟩ := hxb
  have h5 : ∀ t, t ≠ 48 → t ≠ 22 → ∀ x cs, Blk wo x cs t → ¬ (x = g ∨ k = some x) := fun t ht ht2 x cs hx e => by
    rcases e with e | e
    · subst e; exact Blk.ne hx hgb ht rfl
    · obtain ⟨_, cs', hc⟩ := W1.kb2 e
      exact Blk.ne hx hc ht2 rfl
  refine ⟨X1.frm f3 (h5 39 (by decide) (by decide) _ _ hxb) (fun x hx e => ?_) (h5 5 (by decide) (by decide)), fun x hx hx2 => ?_, F1.then f3 (fun x hx => .inr ?_), fun go cs h => f3.blk h (h5 41 (by decide) (by decide) _ _ h), fun b l h => h.frm f3 (h5 5 (by decide) (by decide))⟩
  · obtain ⟨_, cs, hc⟩ := X1.kb hx
    rcases e with e | e
    · subst e; exact Blk.ne hc hgb (by decide) rfl
    · exact ap x e hx
  · rcases a3 with e | e
    · exact ap x (by rw [← e]; exact hx) hx2
    · have h1 := e x hx
      obtain ⟨_, cs, hc⟩ := X1.kb hx2
      have := hc.lt
      omega
  · rcases hx with e | e
    · subst e; exact hg
    · exact Nat.le_trans hg (W1.kb2 e).1
theorem fin_ {w w3 w5 : World} {g gx : Nat} {k3 kx kx5 : Option Nat} {L L' : List (List Nat)} {se lo se' lo' : Int} (W3 : IsW w3 g g k3 L' se' lo') (X3 : IsR w3 g gx kx L se lo) (ap : Apart k3 kx) (F3 : Frm No w w3) (hg : w.heap.size ≤ g) (hgx : w.heap.size ≤ gx) (a5 : Anew w3 kx kx5) (f5 : Frm (fun x => x = gx ∨ kx = some x) w3 w5) :
    IsW w5 g g k3 L' se' lo' ∧ Apart k3 kx5 ∧ Frm No w w5 ∧ (∀ go cs, Blk w3 go cs 41 → Blk w5 go cs 41) ∧ (∀ b l, IsB w3 b l → IsB w5 b l) := by
  have hgb : ∃ cs, Blk w3 g cs 48 := by obtain ⟨_, v, S, hb, _⟩ := W3; exact ⟨_, hb⟩
  have hxb : ∃ cs, Blk w3 gx cs 39 := by obtain ⟨_, v, S, hb, _⟩ := X3; exact ⟨_, hb⟩
  obtain ⟨cg, hgb⟩ := hgb
  obtain ⟨cx, hxb⟩ := hxb
  have h5 : ∀ t, t ≠ 39 → t ≠ 22 → ∀ x cs, Blk w3 x cs t → ¬ (x = gx ∨ kx = some x) := fun t ht ht2 x cs hx e => by
    rcases e with e | e
    · subst e; exact Blk.ne hx hxb ht rfl
    · obtain ⟨_, cs', hc⟩ := X3.kb e
      exact Blk.ne hx hc ht2 rfl
  refine ⟨?_, fun x hx hx2 => ?_, F3.then f5 (fun x hx => .inr ?_), fun go cs h => f5.blk h (h5 41 (by decide) (by decide) _ _ h), fun b l h => h.frm f5 (h5 5 (by decide) (by decide))⟩
  · refine W3.frm f5 (h5 48 (by decide) (by decide) _ _ hgb) (fun x hx e => ?_) (h5 5 (by decide) (by decide))
    obtain ⟨_, cs, hc⟩ := W3.kb2 hx
    rcases e with e | e
    · subst e; exact Blk.ne hc hxb (by decide) rfl
    · exact ap x hx e
  · rcases a5 with e | e
    · exact ap x hx (by rw [← e]; exact hx2)
    · have h1 := e x hx2
      obtain ⟨_, cs, hc⟩ := W3.kb2 hx
      have := hc.lt
      omega
  · rcases hx with e | e
    · subst e; exact hgx
    · exact Nat.le_trans hg (X3.kb e).1
/-- The program's way and the document's. -/
def LV (w wx : World) (g gx : Nat) (j : Nat) : Prop := ∃ (k kx : Option Nat) (L : List (List Nat)) (se lo : Int), IsW wx g g k L se lo ∧ IsR wx g gx kx L se lo ∧ Apart k kx ∧ Fits L ∧ lo + L.length ≤ se ∧ se ≤ (j : Int) ∧ 0 ≤ lo ∧ Frm No w wx
theorem Blk.cells5 {w : World} {go : Nat} {a b c d e : Value} {t : TypeId} (h : Blk w go #[a, b, c, d, e] t) : w.cell? ⟨go, 0, none⟩ = some a ∧ w.cell? ⟨go, 1, none⟩ = some b ∧ w.cell? ⟨go, 2, none⟩ = some c ∧ w.cell? ⟨go, 3, none⟩ = some d ∧ w.cell? ⟨go, 4, none⟩ = some e := ⟨h.cell 0, h.cell 1, h.cell 2, h.cell 3, h.cell 4⟩
def CS (w : World) (go : Nat) (a b c d e : Value) : Prop := w.cell? ⟨go, 0, none⟩ = some a ∧ w.cell? ⟨go, 1, none⟩ = some b ∧ w.cell? ⟨go, 2, none⟩ = some c ∧ w.cell? ⟨go, 3, none⟩ = some d ∧ w.cell? ⟨go, 4, none⟩ = some e

def cL : Code → Code | .seq a _ => a | .block _ b => b | .loop b => b | .cond _ a _ => a | c => c
def cR : Code → Code | .seq _ b => b | .cond _ _ b => b | c => c
set_option maxRecDepth 100000 in
set_option maxHeartbeats 16000000 in
theorem sw0 {w wo : World} {g gx go j : Nat} {k kx : Option Nat} {L : List (List Nat)} {se lo kd oi oa on : Int} {oA : Option Addr} {l oc : Nat} {bs : List Nat} (hgl : w.heap.size ≤ g) (hgl2 : g ≤ w.heap.size) (hgxl : w.heap.size ≤ gx) (l0 : 0 ≤ lo) (s1 : se ≤ (j : Int)) (hL : L.length ≤ 256) (hl63 : l ≤ 9223372036854775807) (B1 : g ≤ wo.heap.size) (hj : j ≤ 400)
    (HB : Hid (Fits L ∧ Bin w oA bs ∧ bs.length = l ∧ (∀ c ∈ bs, c < 256) ∧ Apart k kx ∧ Blk wo go #[.int .i64 kd, .int .i64 oi, .int .i64 oa, .int .i64 on, .slice oA l oc] 41 ∧ IsR wo g gx kx L se lo ∧ Frm No w wo ∧ IsW wo g g k L se lo ∧ lo + L.length ≤ se))
    {Q : Exit → Act → World → Prop} {u0 u1 u2 u5 u7 u8 u9 u10 u11 u12 u13 u14 u15 u16 u17 u18 u19 u20 u21 u22 u23 u24 u25 u26 u27 u28 u29 u30 u31 u32 u33 u34 u35 u36 u37 u38 u39 u40 u41 u42 u43 u44 u45 u46 u47 u48 u49 u50 u51 u52 u53 u54 u55 u56 u57 u58 u59 u60 u61 u62 u63 u64 u65 u66 u67 u68 u69 u70 u71 u72 u73 u74 u75 u76 u77 u78 u79 u80 u81 u82 u83 u84 u85 u86 u87 u88 u89 u90 u91 u92 u93 u94 u95 u96 u97 u98 u99 u100 u101 u102 u103 u104 u105 u106 u107 u108 u109 u110 u111 u112 u113 u114 u115 u116 u117 u118 u119 u120 u121 u122 u123 u124 u125 u126 u127 u128 u129 u130 u131 u132 u133 u134 u135 u136 u137 u138 u139 u140 u141 u142 u143 u144 u145 u146 u147 u148 u149 u150 u151 u152 u153 u154 u155 u156 u157 u158 u159 u160 u161 u162 u163 u164 u165 u166 u167 u168 u169 u170 u171 u172 u173 u174 u175 u176 u177 u178 u179 u180 u181 u182 u183 u184 u185 u186 u187 u188 u189 u190 u191 u192 u193 u194 u195 u196 u197 u198 u199 u200 u201 u202 u203 u204 u205 u206 u207 u208 u209 u210 u211 u212 u213 u214 u215 u216 u217 u218 u219 u220 u221 u222 u223 u224 u225 u226 u227 u228 u229 u230 u231 u232 u233 u234 u235 u236 u237 u238 u239 u240 u241 u242 u243 u244 u245 u246 : Value}
    (hP : ∀ c (a : Act) (d : Nat) v w, Q (.panic c) (a.put (some d) v) w → Q (.panic c) a w)
    (hQ : ∀ (v56 v57 v58 v59 v60 v61 v62 v63 v64 : Value) (w' : World), LV w w' g gx (j + 1) → Q .normal ⟨#[u0, u1, u2, .pointer (some ⟨g, 0, none⟩), .pointer (some ⟨gx, 0, none⟩), u5, .pointer (some ⟨go, 0, none⟩), .bool true, u8, u9, u10, u11, u12, u13, u14, u15, u16, u17, u18, u19, u20, u21, u22, u23, u24, u25, u26, u27, u28, u29, u30, u31, u32, u33, u34, u35, u36, u37, u38, u39, u40, u41, u42, u43, u44, u45, u46, u47, u48, u49, u50, u51, u52, u53, u54, u55, v56, v57, v58, v59, v60, v61, v62, v63, v64, u65, u66, u67, u68, u69, u70, u71, u72, u73, u74, u75, u76, u77, u78, u79, u80, u81, u82, u83, u84, u85, u86, u87, u88, u89, u90, u91, u92, u93, u94, u95, u96, u97, u98, u99, u100, u101, u102, u103, u104, u105, u106, u107, u108, u109, u110, u111, u112, u113, u114, u115, u116, u117, u118, u119, u120, u121, u122, u123, u124, u125, u126, u127, u128, u129, u130, u131, u132, u133, u134, u135, u136, u137, u138, u139, u140, u141, u142, u143, u144, u145, u146, u147, u148, u149, u150, u151, u152, u153, u154, u155, u156, u157, u158, u159, u160, u161, u162, u163, u164, u165, u166, u167, u168, u169, u170, u171, u172, u173, u174, u175, u176, u177, u178, u179, u180, u181, u182, u183, u184, u185, u186, u187, u188, u189, u190, u191, u192, u193, u194, u195, u196, u197, u198, u199, u200, u201, u202, u203, u204, u205, u206, u207, u208, u209, u210, u211, u212, u213, u214, u215, u216, u217, u218, u219, u220, u221, u222, u223, u224, u225, u226, u227, u228, u229, u230, u231, u232, u233, u234, u235, u236, u237, u238, u239, u240, u241, u242, u243, u244, u245, u246], []⟩ w') :
    Code.wp Try.prog (cL (cR (cL (cR (cL (cR (cR (cR (cL (cL (cR (cL (cL (cR (cL (cR (cR (Try.f5.body.getD .skip)))))))))))))))))) Q ⟨#[u0, u1, u2, .pointer (some ⟨g, 0, none⟩), .pointer (some ⟨gx, 0, none⟩), u5, .pointer (some ⟨go, 0, none⟩), u7, u8, u9, u10, u11, u12, u13, u14, u15, u16, u17, u18, u19, u20, u21, u22, u23, u24, u25, u26, u27, u28, u29, u30, u31, u32, u33, u34, u35, u36, u37, u38, u39, u40, u41, u42, u43, u44, u45, u46, u47, u48, u49, u50, u51, u52, u53, u54, u55, u56, u57, u58, u59, u60, u61, u62, u63, u64, u65, u66, u67, u68, u69, u70, u71, u72, u73, u74, u75, u76, u77, u78, u79, u80, u81, u82, u83, u84, u85, u86, u87, u88, u89, u90, u91, u92, u93, u94, u95, u96, u97, u98, u99, u100, u101, u102, u103, u104, u105, u106, u107, u108, u109, u110, u111, u112, u113, u114, u115, u116, u117, u118, u119, u120, u121, u122, u123, u124, u125, u126, u127, u128, u129, u130, u131, u132, u133, u134, u135, u136, u137, u138, u139, u140, u141, u142, u143, u144, u145, u146, u147, u148, u149, u150, u151, u152, u153, u154, u155, u156, u157, u158, u159, u160, u161, u162, u163, u164, u165, u166, u167, u168, u169, u170, u171, u172, u173, u174, u175, u176, u177, u178, u179, u180, u181, u182, u183, u184, u185, u186, u187, u188, u189, u190, u191, u192, u193, u194, u195, u196, u197, u198, u199, u200, u201, u202, u203, u204, u205, u206, u207, u208, u209, u210, u211, u212, u213, u214, u215, u216, u217, u218, u219, u220, u221, u222, u223, u224, u225, u226, u227, u228, u229, u230, u231, u232, u233, u234, u235, u236, u237, u238, u239, u240, u241, u242, u243, u244, u245, u246], []⟩ wo := by
  obtain ⟨y0, y1, y2, y3, y4⟩ := Blk.cells5 HB.out.2.2.2.2.2.1
  unfold Try.f5
  dsimp only [cL, cR, Option.getD_some]
  refine wp_region_N (S := fun w' => w'.cell? ⟨go, 0, none⟩ = some (.int .i64 kd) ∧ w'.cell? ⟨go, 1, none⟩ = some (.int .i64 oi) ∧ w'.cell? ⟨go, 2, none⟩ = some (.int .i64 oa) ∧ w'.cell? ⟨go, 3, none⟩ = some (.int .i64 on) ∧ w'.cell? ⟨go, 4, none⟩ = some (.slice oA l oc)) 99 (by kernel_rfl) ⟨y0, y1, y2, y3, y4⟩ (fun hHeld => ?_)
  refine wpAnyN_take (i := 0) (v := ?rnv5r11x1_0) rfl (by kernel_rfl) (by kernel_rfl) (by kernel_rfl) (fun c a w h => hP c a _ _ w h) (by decide) (by kernel_rfl) (Or.inl ⟨by rfl, ?rny5r11x1_0⟩) (by assumption) ?rnr5r11x1_0
  case rny5r11x1_0 => (intro w hSw; (try dsimp only at hSw); go_simp; try with_reducible rfl)
  try simp only [Act.put, List.setIfInBounds_toArray, List.set_cons_zero, List.set_cons_succ, List.getElem_toArray, List.getElem_cons_zero, List.getElem_cons_succ]
  refine wpAnyN_take (i := 1) (v := ?rnv5r11x1_1) rfl (by kernel_rfl) (by kernel_rfl) (by kernel_rfl) (fun c a w h => hP c a _ _ w h) (by decide) (by kernel_rfl) (Or.inl ⟨by rfl, ?rny5r11x1_1⟩) (by assumption) ?rnr5r11x1_1
  case rny5r11x1_1 => (intro w hSw; (try dsimp only at hSw); go_simp; try with_reducible rfl)
  try simp only [Act.put, List.setIfInBounds_toArray, List.set_cons_zero, List.set_cons_succ, List.getElem_toArray, List.getElem_cons_zero, List.getElem_cons_succ]
  refine wpAnyN_take (i := 2) (v := ?rnv5r11x1_2) rfl (by kernel_rfl) (by kernel_rfl) (by kernel_rfl) (fun c a w h => hP c a _ _ w h) (by decide) (by kernel_rfl) (Or.inl ⟨by rfl, ?rny5r11x1_2⟩) (by assumption) ?rnr5r11x1_2
  case rny5r11x1_2 => (intro w hSw; (try dsimp only at hSw); go_simp; try with_reducible rfl)
  try simp only [Act.put, List.setIfInBounds_toArray, List.set_cons_zero, List.set_cons_succ, List.getElem_toArray, List.getElem_cons_zero, List.getElem_cons_succ]
  refine wpAnyN_take (i := 4) (v := ?rnv5r11x1_4) rfl (by kernel_rfl) (by kernel_rfl) (by kernel_rfl) (fun c a w h => hP c a _ _ w h) (by decide) (by kernel_rfl) (Or.inl ⟨by rfl, ?rny5r11x1_4⟩) (by assumption) ?rnr5r11x1_4
  case rny5r11x1_4 => (intro w hSw; (try dsimp only at hSw); go_simp; try with_reducible rfl)
  try simp only [Act.put, List.setIfInBounds_toArray, List.set_cons_zero, List.set_cons_succ, List.getElem_toArray, List.getElem_cons_zero, List.getElem_cons_succ]
  refine wpAnyN_take (i := 5) (v := ?rnv5r11x1_5) rfl (by kernel_rfl) (by kernel_rfl) (by kernel_rfl) (fun c a w h => hP c a _ _ w h) (by decide) (by kernel_rfl) (Or.inl ⟨by rfl, ?rny5r11x1_5⟩) (by assumption) ?rnr5r11x1_5
  case rny5r11x1_5 => (intro w hSw; (try dsimp only at hSw); go_simp; try with_reducible rfl)
  try simp only [Act.put, List.setIfInBounds_toArray, List.set_cons_zero, List.set_cons_succ, List.getElem_toArray, List.getElem_cons_zero, List.getElem_cons_succ]
  refine wpAnyN_take (i := 6) (v := ?rnv5r11x1_6) rfl (by kernel_rfl) (by kernel_rfl) (by kernel_rfl) (fun c a w h => hP c a _ _ w h) (by decide) (by kernel_rfl) (Or.inl ⟨by rfl, ?rny5r11x1_6⟩) (by assumption) ?rnr5r11x1_6
  case rny5r11x1_6 => (intro w hSw; (try dsimp only at hSw); go_simp; try with_reducible rfl)
  try simp only [Act.put, List.setIfInBounds_toArray, List.set_cons_zero, List.set_cons_succ, List.getElem_toArray, List.getElem_cons_zero, List.getElem_cons_succ]
  refine wpAnyN_one (i := 3) (by kernel_rfl) rfl (fun K hK => ?_)
  go_simp
  refine (send_any _ g g k L se lo oA l oc bs (HB.out.2.2.2.2.2.2.2.2.1.frmN (Frm.refl No _).drew) (HB.out.2.1.frmN HB.out.2.2.2.2.2.2.2.1.drew) HB.out.2.2.1 hl63 B1 (by have := HB.out.2.2.2.2.2.2.2.2.2; omega) (by omega)).mono ?_
  rintro e w3 ⟨rfl, ⟨k3, W3, a3⟩, f3⟩
  obtain ⟨X3, ap3, F3, b3, -⟩ := mid_ HB.out.2.2.2.2.2.2.2.2.1 HB.out.2.2.2.2.2.2.1 HB.out.2.2.2.2.1 HB.out.2.2.2.2.2.2.2.1 hgl a3 (((Frm.refl (fun x => x = g ∨ k = some x) wo).drew).then f3 (fun x hx => .inl (by rcases hx with rfl; exact .inl rfl)))
  have hO3 := b3 _ _ HB.out.2.2.2.2.2.1
  have Y3 := Blk.cells5 hO3
  have B3 : g ≤ w3.heap.size := by have := F3.size; omega
  have HW3 := Lib.hid (And.intro W3 (And.intro X3 (And.intro ap3 (And.intro F3 hO3))))
  clear W3 X3 ap3 F3 b3 hO3 a3 f3
  go_wp2_with fail
  refine hK.out _ _ (fun _ => ?_) (fun hHeld => ?_)
  · exact Y3
  have hHeld := hHeld (by decide)
  clear hK K
  try simp only [Act.put, List.setIfInBounds_toArray, List.set_cons_zero, List.set_cons_succ, List.getElem_toArray, List.getElem_cons_zero, List.getElem_cons_succ]
  refine wpAnyN_one (i := 7) (by kernel_rfl) rfl (fun K hK => ?_)
  go_simp
  refine (rsend_any _ g gx kx L se lo oA l oc bs HW3.out.2.1 (HB.out.2.1.frmN HW3.out.2.2.2.1) HB.out.2.2.1 hl63 B3 (by have := HB.out.2.2.2.2.2.2.2.2.2; omega) (by omega)).mono ?_
  rintro e w5 ⟨rfl, ⟨k5, X5, a5⟩, f5⟩
  obtain ⟨W5, ap5, F5, b5, -⟩ := fin_ HW3.out.1 HW3.out.2.1 HW3.out.2.2.1 HW3.out.2.2.2.1 hgl hgxl a5 (f5.mono fun x hx => hx)
  have Y5 := Blk.cells5 (b5 _ _ HW3.out.2.2.2.2)
  have HW5 := Lib.hid (And.intro W5 (And.intro X5 (And.intro ap5 F5)))
  clear W5 X5 ap5 F5 a5 f5 b5
  go_wp2_with fail
  refine hK.out _ _ (fun _ => ?_) (fun hHeld => ?_)
  · exact Y5
  have hHeld := hHeld (by decide)
  clear hK K
  try simp only [Act.put, List.setIfInBounds_toArray, List.set_cons_zero, List.set_cons_succ, List.getElem_toArray, List.getElem_cons_zero, List.getElem_cons_succ]
  refine wpAnyN_take (i := 8) (v := ?rnv5r11x1_8) rfl (by kernel_rfl) (by kernel_rfl) (by kernel_rfl) (fun c a w h => hP c a _ _ w h) (by decide) (by kernel_rfl) (Or.inl ⟨by rfl, ?rny5r11x1_8⟩) (by assumption) ?rnr5r11x1_8
  case rny5r11x1_8 => (intro w hSw; (try dsimp only at hSw); go_simp; try with_reducible rfl)
  try simp only [Act.put, List.setIfInBounds_toArray, List.set_cons_zero, List.set_cons_succ, List.getElem_toArray, List.getElem_cons_zero, List.getElem_cons_succ]
  refine wpAnyN_take (i := 9) (v := ?rnv5r11x1_9) rfl (by kernel_rfl) (by kernel_rfl) (by kernel_rfl) (fun c a w h => hP c a _ _ w h) (by decide) (by kernel_rfl) (Or.inl ⟨by rfl, ?rny5r11x1_9⟩) (by assumption) ?rnr5r11x1_9
  case rny5r11x1_9 => (intro w hSw; (try dsimp only at hSw); go_simp; try with_reducible rfl)
  try simp only [Act.put, List.setIfInBounds_toArray, List.set_cons_zero, List.set_cons_succ, List.getElem_toArray, List.getElem_cons_zero, List.getElem_cons_succ]
  refine wpAnyN_done (by kernel_rfl) ?_ _
  apply hQ
  have hsum := HB.out.2.2.2.2.2.2.2.2.2
  by_cases hE : sendE L l = 0
  · have hl4 : l ≤ 4096 := by
      unfold sendE at hE
      by_cases h1 : 4096 < l
      · rw [if_pos h1] at hE; cases hE
      · omega
    have W5 := HW5.out.1
    have X5 := HW5.out.2.1
    rw [if_pos hE, if_pos hE] at W5 X5
    exact ⟨k3, k5, _, _, _, W5, X5, HW5.out.2.2.1, fits_app HB.out.1 (by rw [HB.out.2.2.1]; exact hl4) HB.out.2.2.2.1, by simp; omega, by push_cast; omega, l0, HW5.out.2.2.2⟩
  · have W5 := HW5.out.1
    have X5 := HW5.out.2.1
    rw [if_neg hE, if_neg hE] at W5 X5
    exact ⟨k3, k5, _, _, _, W5, X5, HW5.out.2.2.1, HB.out.1, hsum, by push_cast; omega, l0, HW5.out.2.2.2⟩
set_option maxRecDepth 100000 in
set_option maxHeartbeats 16000000 in
theorem sw2 {w wo : World} {g gx go j : Nat} {k kx : Option Nat} {L : List (List Nat)} {se lo kd oi oa on : Int} {oA : Option Addr} {l oc : Nat} {bs : List Nat} (hgl : w.heap.size ≤ g) (hgl2 : g ≤ w.heap.size) (hgxl : w.heap.size ≤ gx) (l0 : 0 ≤ lo) (s1 : se ≤ (j : Int)) (hL : L.length ≤ 256) (hl63 : l ≤ 9223372036854775807) (B1 : g ≤ wo.heap.size) (hj : j ≤ 400)
    (HB : Hid (Fits L ∧ Bin w oA bs ∧ bs.length = l ∧ (∀ c ∈ bs, c < 256) ∧ Apart k kx ∧ Blk wo go #[.int .i64 kd, .int .i64 oi, .int .i64 oa, .int .i64 on, .slice oA l oc] 41 ∧ IsR wo g gx kx L se lo ∧ Frm No w wo ∧ IsW wo g g k L se lo ∧ lo + L.length ≤ se))
    {Q : Exit → Act → World → Prop} {u0 u1 u2 u5 u7 u8 u9 u10 u11 u12 u13 u14 u15 u16 u17 u18 u19 u20 u21 u22 u23 u24 u25 u26 u27 u28 u29 u30 u31 u32 u33 u34 u35 u36 u37 u38 u39 u40 u41 u42 u43 u44 u45 u46 u47 u48 u49 u50 u51 u52 u53 u54 u55 u56 u57 u58 u59 u60 u61 u62 u63 u64 u65 u66 u67 u68 u69 u70 u71 u72 u73 u74 u75 u76 u77 u78 u79 u80 u81 u82 u83 u84 u85 u86 u87 u88 u89 u90 u91 u92 u93 u94 u95 u96 u97 u98 u99 u100 u101 u102 u103 u104 u105 u106 u107 u108 u109 u110 u111 u112 u113 u114 u115 u116 u117 u118 u119 u120 u121 u122 u123 u124 u125 u126 u127 u128 u129 u130 u131 u132 u133 u134 u135 u136 u137 u138 u139 u140 u141 u142 u143 u144 u145 u146 u147 u148 u149 u150 u151 u152 u153 u154 u155 u156 u157 u158 u159 u160 u161 u162 u163 u164 u165 u166 u167 u168 u169 u170 u171 u172 u173 u174 u175 u176 u177 u178 u179 u180 u181 u182 u183 u184 u185 u186 u187 u188 u189 u190 u191 u192 u193 u194 u195 u196 u197 u198 u199 u200 u201 u202 u203 u204 u205 u206 u207 u208 u209 u210 u211 u212 u213 u214 u215 u216 u217 u218 u219 u220 u221 u222 u223 u224 u225 u226 u227 u228 u229 u230 u231 u232 u233 u234 u235 u236 u237 u238 u239 u240 u241 u242 u243 u244 u245 u246 : Value}
    (hP : ∀ c (a : Act) (d : Nat) v w, Q (.panic c) (a.put (some d) v) w → Q (.panic c) a w)
    (hQ : ∀ (v93 v94 v95 v96 v97 v98 v99 v100 v101 : Value) (w' : World), LV w w' g gx (j + 1) → Q .normal ⟨#[u0, u1, u2, .pointer (some ⟨g, 0, none⟩), .pointer (some ⟨gx, 0, none⟩), u5, .pointer (some ⟨go, 0, none⟩), .bool true, u8, u9, u10, u11, u12, u13, u14, u15, u16, u17, u18, u19, u20, u21, u22, u23, u24, u25, u26, u27, u28, u29, u30, u31, u32, u33, u34, u35, u36, u37, u38, u39, u40, u41, u42, u43, u44, u45, u46, u47, u48, u49, u50, u51, u52, u53, u54, u55, u56, u57, u58, u59, u60, u61, u62, u63, u64, u65, u66, u67, u68, u69, u70, u71, u72, u73, u74, u75, u76, u77, u78, u79, u80, u81, u82, u83, u84, u85, u86, u87, u88, u89, u90, u91, u92, v93, v94, v95, v96, v97, v98, v99, v100, v101, u102, u103, u104, u105, u106, u107, u108, u109, u110, u111, u112, u113, u114, u115, u116, u117, u118, u119, u120, u121, u122, u123, u124, u125, u126, u127, u128, u129, u130, u131, u132, u133, u134, u135, u136, u137, u138, u139, u140, u141, u142, u143, u144, u145, u146, u147, u148, u149, u150, u151, u152, u153, u154, u155, u156, u157, u158, u159, u160, u161, u162, u163, u164, u165, u166, u167, u168, u169, u170, u171, u172, u173, u174, u175, u176, u177, u178, u179, u180, u181, u182, u183, u184, u185, u186, u187, u188, u189, u190, u191, u192, u193, u194, u195, u196, u197, u198, u199, u200, u201, u202, u203, u204, u205, u206, u207, u208, u209, u210, u211, u212, u213, u214, u215, u216, u217, u218, u219, u220, u221, u222, u223, u224, u225, u226, u227, u228, u229, u230, u231, u232, u233, u234, u235, u236, u237, u238, u239, u240, u241, u242, u243, u244, u245, u246], []⟩ w') :
    Code.wp Try.prog (cL (cR (cR (cR (cR (cR (cL (cR (cL (cR (cR (cR (cL (cL (cR (cL (cL (cR (cL (cR (cR (Try.f5.body.getD .skip)))))))))))))))))))))) Q ⟨#[u0, u1, u2, .pointer (some ⟨g, 0, none⟩), .pointer (some ⟨gx, 0, none⟩), u5, .pointer (some ⟨go, 0, none⟩), u7, u8, u9, u10, u11, u12, u13, u14, u15, u16, u17, u18, u19, u20, u21, u22, u23, u24, u25, u26, u27, u28, u29, u30, u31, u32, u33, u34, u35, u36, u37, u38, u39, u40, u41, u42, u43, u44, u45, u46, u47, u48, u49, u50, u51, u52, u53, u54, u55, u56, u57, u58, u59, u60, u61, u62, u63, u64, u65, u66, u67, u68, u69, u70, u71, u72, u73, u74, u75, u76, u77, u78, u79, u80, u81, u82, u83, u84, u85, u86, u87, u88, u89, u90, u91, u92, u93, u94, u95, u96, u97, u98, u99, u100, u101, u102, u103, u104, u105, u106, u107, u108, u109, u110, u111, u112, u113, u114, u115, u116, u117, u118, u119, u120, u121, u122, u123, u124, u125, u126, u127, u128, u129, u130, u131, u132, u133, u134, u135, u136, u137, u138, u139, u140, u141, u142, u143, u144, u145, u146, u147, u148, u149, u150, u151, u152, u153, u154, u155, u156, u157, u158, u159, u160, u161, u162, u163, u164, u165, u166, u167, u168, u169, u170, u171, u172, u173, u174, u175, u176, u177, u178, u179, u180, u181, u182, u183, u184, u185, u186, u187, u188, u189, u190, u191, u192, u193, u194, u195, u196, u197, u198, u199, u200, u201, u202, u203, u204, u205, u206, u207, u208, u209, u210, u211, u212, u213, u214, u215, u216, u217, u218, u219, u220, u221, u222, u223, u224, u225, u226, u227, u228, u229, u230, u231, u232, u233, u234, u235, u236, u237, u238, u239, u240, u241, u242, u243, u244, u245, u246], []⟩ wo := by
  obtain ⟨y0, y1, y2, y3, y4⟩ := Blk.cells5 HB.out.2.2.2.2.2.1
  unfold Try.f5
  dsimp only [cL, cR, Option.getD_some]
  refine wp_region_N (S := fun w' => w'.cell? ⟨go, 0, none⟩ = some (.int .i64 kd) ∧ w'.cell? ⟨go, 1, none⟩ = some (.int .i64 oi) ∧ w'.cell? ⟨go, 2, none⟩ = some (.int .i64 oa) ∧ w'.cell? ⟨go, 3, none⟩ = some (.int .i64 on) ∧ w'.cell? ⟨go, 4, none⟩ = some (.slice oA l oc)) 99 (by kernel_rfl) ⟨y0, y1, y2, y3, y4⟩ (fun hHeld => ?_)
  refine wpAnyN_take (i := 0) (v := ?rnv5r17x2_0) rfl (by kernel_rfl) (by kernel_rfl) (by kernel_rfl) (fun c a w h => hP c a _ _ w h) (by decide) (by kernel_rfl) (Or.inl ⟨by rfl, ?rny5r17x2_0⟩) (by assumption) ?rnr5r17x2_0
  case rny5r17x2_0 => (intro w hSw; (try dsimp only at hSw); go_simp; try with_reducible rfl)
  try simp only [Act.put, List.setIfInBounds_toArray, List.set_cons_zero, List.set_cons_succ, List.getElem_toArray, List.getElem_cons_zero, List.getElem_cons_succ]
  refine wpAnyN_take (i := 1) (v := ?rnv5r17x2_1) rfl (by kernel_rfl) (by kernel_rfl) (by kernel_rfl) (fun c a w h => hP c a _ _ w h) (by decide) (by kernel_rfl) (Or.inl ⟨by rfl, ?rny5r17x2_1⟩) (by assumption) ?rnr5r17x2_1
  case rny5r17x2_1 => (intro w hSw; (try dsimp only at hSw); go_simp; try with_reducible rfl)
  try simp only [Act.put, List.setIfInBounds_toArray, List.set_cons_zero, List.set_cons_succ, List.getElem_toArray, List.getElem_cons_zero, List.getElem_cons_succ]
  refine wpAnyN_take (i := 2) (v := ?rnv5r17x2_2) rfl (by kernel_rfl) (by kernel_rfl) (by kernel_rfl) (fun c a w h => hP c a _ _ w h) (by decide) (by kernel_rfl) (Or.inl ⟨by rfl, ?rny5r17x2_2⟩) (by assumption) ?rnr5r17x2_2
  case rny5r17x2_2 => (intro w hSw; (try dsimp only at hSw); go_simp; try with_reducible rfl)
  try simp only [Act.put, List.setIfInBounds_toArray, List.set_cons_zero, List.set_cons_succ, List.getElem_toArray, List.getElem_cons_zero, List.getElem_cons_succ]
  refine wpAnyN_take (i := 4) (v := ?rnv5r17x2_4) rfl (by kernel_rfl) (by kernel_rfl) (by kernel_rfl) (fun c a w h => hP c a _ _ w h) (by decide) (by kernel_rfl) (Or.inl ⟨by rfl, ?rny5r17x2_4⟩) (by assumption) ?rnr5r17x2_4
  case rny5r17x2_4 => (intro w hSw; (try dsimp only at hSw); go_simp; try with_reducible rfl)
  try simp only [Act.put, List.setIfInBounds_toArray, List.set_cons_zero, List.set_cons_succ, List.getElem_toArray, List.getElem_cons_zero, List.getElem_cons_succ]
  refine wpAnyN_take (i := 5) (v := ?rnv5r17x2_5) rfl (by kernel_rfl) (by kernel_rfl) (by kernel_rfl) (fun c a w h => hP c a _ _ w h) (by decide) (by kernel_rfl) (Or.inl ⟨by rfl, ?rny5r17x2_5⟩) (by assumption) ?rnr5r17x2_5
  case rny5r17x2_5 => (intro w hSw; (try dsimp only at hSw); go_simp; try with_reducible rfl)
  try simp only [Act.put, List.setIfInBounds_toArray, List.set_cons_zero, List.set_cons_succ, List.getElem_toArray, List.getElem_cons_zero, List.getElem_cons_succ]
  refine wpAnyN_take (i := 6) (v := ?rnv5r17x2_6) rfl (by kernel_rfl) (by kernel_rfl) (by kernel_rfl) (fun c a w h => hP c a _ _ w h) (by decide) (by kernel_rfl) (Or.inl ⟨by rfl, ?rny5r17x2_6⟩) (by assumption) ?rnr5r17x2_6
  case rny5r17x2_6 => (intro w hSw; (try dsimp only at hSw); go_simp; try with_reducible rfl)
  try simp only [Act.put, List.setIfInBounds_toArray, List.set_cons_zero, List.set_cons_succ, List.getElem_toArray, List.getElem_cons_zero, List.getElem_cons_succ]
  refine wpAnyN_one (i := 3) (by kernel_rfl) rfl (fun K hK => ?_)
  go_simp
  refine (lose_any _ g g k L se lo oi (HB.out.2.2.2.2.2.2.2.2.1.frmN (Frm.refl No _).drew) HB.out.1 B1 (by have := HB.out.2.2.2.2.2.2.2.2.2; omega) (by have := HB.out.2.2.2.2.2.2.2.2.2; omega)).mono ?_
  rintro e w3 ⟨rfl, ⟨k3, W3, a3⟩, f3⟩
  obtain ⟨X3, ap3, F3, b3, -⟩ := mid_ HB.out.2.2.2.2.2.2.2.2.1 HB.out.2.2.2.2.2.2.1 HB.out.2.2.2.2.1 HB.out.2.2.2.2.2.2.2.1 hgl a3 (((Frm.refl (fun x => x = g ∨ k = some x) wo).drew).then f3 (fun x hx => .inl (by rcases hx with rfl; exact .inl rfl)))
  have hO3 := b3 _ _ HB.out.2.2.2.2.2.1
  have Y3 := Blk.cells5 hO3
  have B3 : g ≤ w3.heap.size := by have := F3.size; omega
  have HW3 := Lib.hid (And.intro W3 (And.intro X3 (And.intro ap3 (And.intro F3 hO3))))
  clear W3 X3 ap3 F3 b3 hO3 a3 f3
  go_wp2_with fail
  refine hK.out _ _ (fun _ => ?_) (fun hHeld => ?_)
  · exact Y3
  have hHeld := hHeld (by decide)
  clear hK K
  try simp only [Act.put, List.setIfInBounds_toArray, List.set_cons_zero, List.set_cons_succ, List.getElem_toArray, List.getElem_cons_zero, List.getElem_cons_succ]
  refine wpAnyN_one (i := 7) (by kernel_rfl) rfl (fun K hK => ?_)
  go_simp
  refine (rlose_any _ g gx kx L se lo oi HW3.out.2.1 B3 (by have := HB.out.2.2.2.2.2.2.2.2.2; omega) (by have := HB.out.2.2.2.2.2.2.2.2.2; omega)).mono ?_
  rintro e w5 ⟨rfl, ⟨k5, X5, a5⟩, f5⟩
  obtain ⟨W5, ap5, F5, b5, -⟩ := fin_ HW3.out.1 HW3.out.2.1 HW3.out.2.2.1 HW3.out.2.2.2.1 hgl hgxl a5 (f5.mono fun x hx => .inl hx)
  have Y5 := Blk.cells5 (b5 _ _ HW3.out.2.2.2.2)
  have HW5 := Lib.hid (And.intro W5 (And.intro X5 (And.intro ap5 F5)))
  clear W5 X5 ap5 F5 a5 f5 b5
  go_wp2_with fail
  refine hK.out _ _ (fun _ => ?_) (fun hHeld => ?_)
  · exact Y5
  have hHeld := hHeld (by decide)
  clear hK K
  try simp only [Act.put, List.setIfInBounds_toArray, List.set_cons_zero, List.set_cons_succ, List.getElem_toArray, List.getElem_cons_zero, List.getElem_cons_succ]
  refine wpAnyN_take (i := 8) (v := ?rnv5r17x2_8) rfl (by kernel_rfl) (by kernel_rfl) (by kernel_rfl) (fun c a w h => hP c a _ _ w h) (by decide) (by kernel_rfl) (Or.inl ⟨by rfl, ?rny5r17x2_8⟩) (by assumption) ?rnr5r17x2_8
  case rny5r17x2_8 => (intro w hSw; (try dsimp only at hSw); go_simp; try with_reducible rfl)
  try simp only [Act.put, List.setIfInBounds_toArray, List.set_cons_zero, List.set_cons_succ, List.getElem_toArray, List.getElem_cons_zero, List.getElem_cons_succ]
  refine wpAnyN_take (i := 9) (v := ?rnv5r17x2_9) rfl (by kernel_rfl) (by kernel_rfl) (by kernel_rfl) (fun c a w h => hP c a _ _ w h) (by decide) (by kernel_rfl) (Or.inl ⟨by rfl, ?rny5r17x2_9⟩) (by assumption) ?rnr5r17x2_9
  case rny5r17x2_9 => (intro w hSw; (try dsimp only at hSw); go_simp; try with_reducible rfl)
  try simp only [Act.put, List.setIfInBounds_toArray, List.set_cons_zero, List.set_cons_succ, List.getElem_toArray, List.getElem_cons_zero, List.getElem_cons_succ]
  refine wpAnyN_done (by kernel_rfl) ?_ _
  apply hQ
  have hsum := HB.out.2.2.2.2.2.2.2.2.2
  have W5 := HW5.out.1
  have X5 := HW5.out.2.1
  by_cases hE : askI L oi = 0
  · have hin := askI_in hE
    have hcl := cutL_len (L := L) (i := oi.toNat) (by omega)
    rw [if_pos hE, if_pos hE] at W5 X5
    exact ⟨_, k5, _, _, _, W5, X5, HW5.out.2.2.1, fits_cut HB.out.1, by omega, by push_cast; omega, by omega, HW5.out.2.2.2⟩
  · rw [if_neg hE, if_neg hE] at W5 X5
    exact ⟨_, k5, _, _, _, W5, X5, HW5.out.2.2.1, HB.out.1, hsum, by push_cast; omega, l0, HW5.out.2.2.2⟩
set_option maxRecDepth 100000 in
set_option maxHeartbeats 16000000 in
theorem sw3 {w wo : World} {g gx go j : Nat} {k kx : Option Nat} {L : List (List Nat)} {se lo kd oi oa on : Int} {oA : Option Addr} {l oc : Nat} {bs : List Nat} (hgl : w.heap.size ≤ g) (hgl2 : g ≤ w.heap.size) (hgxl : w.heap.size ≤ gx) (l0 : 0 ≤ lo) (s1 : se ≤ (j : Int)) (hL : L.length ≤ 256) (hl63 : l ≤ 9223372036854775807) (B1 : g ≤ wo.heap.size) (hj : j ≤ 400)
    (HB : Hid (Fits L ∧ Bin w oA bs ∧ bs.length = l ∧ (∀ c ∈ bs, c < 256) ∧ Apart k kx ∧ Blk wo go #[.int .i64 kd, .int .i64 oi, .int .i64 oa, .int .i64 on, .slice oA l oc] 41 ∧ IsR wo g gx kx L se lo ∧ Frm No w wo ∧ IsW wo g g k L se lo ∧ lo + L.length ≤ se))
    {Q : Exit → Act → World → Prop} {u0 u1 u2 u5 u7 u8 u9 u10 u11 u12 u13 u14 u15 u16 u17 u18 u19 u20 u21 u22 u23 u24 u25 u26 u27 u28 u29 u30 u31 u32 u33 u34 u35 u36 u37 u38 u39 u40 u41 u42 u43 u44 u45 u46 u47 u48 u49 u50 u51 u52 u53 u54 u55 u56 u57 u58 u59 u60 u61 u62 u63 u64 u65 u66 u67 u68 u69 u70 u71 u72 u73 u74 u75 u76 u77 u78 u79 u80 u81 u82 u83 u84 u85 u86 u87 u88 u89 u90 u91 u92 u93 u94 u95 u96 u97 u98 u99 u100 u101 u102 u103 u104 u105 u106 u107 u108 u109 u110 u111 u112 u113 u114 u115 u116 u117 u118 u119 u120 u121 u122 u123 u124 u125 u126 u127 u128 u129 u130 u131 u132 u133 u134 u135 u136 u137 u138 u139 u140 u141 u142 u143 u144 u145 u146 u147 u148 u149 u150 u151 u152 u153 u154 u155 u156 u157 u158 u159 u160 u161 u162 u163 u164 u165 u166 u167 u168 u169 u170 u171 u172 u173 u174 u175 u176 u177 u178 u179 u180 u181 u182 u183 u184 u185 u186 u187 u188 u189 u190 u191 u192 u193 u194 u195 u196 u197 u198 u199 u200 u201 u202 u203 u204 u205 u206 u207 u208 u209 u210 u211 u212 u213 u214 u215 u216 u217 u218 u219 u220 u221 u222 u223 u224 u225 u226 u227 u228 u229 u230 u231 u232 u233 u234 u235 u236 u237 u238 u239 u240 u241 u242 u243 u244 u245 u246 : Value}
    (hP : ∀ c (a : Act) (d : Nat) v w, Q (.panic c) (a.put (some d) v) w → Q (.panic c) a w)
    (hQ : ∀ (v104 v105 v106 v107 v108 v109 v110 v111 v112 v113 v114 v115 v116 : Value) (w' : World), LV w w' g gx (j + 1) → Q .normal ⟨#[u0, u1, u2, .pointer (some ⟨g, 0, none⟩), .pointer (some ⟨gx, 0, none⟩), u5, .pointer (some ⟨go, 0, none⟩), .bool true, u8, u9, u10, u11, u12, u13, u14, u15, u16, u17, u18, u19, u20, u21, u22, u23, u24, u25, u26, u27, u28, u29, u30, u31, u32, u33, u34, u35, u36, u37, u38, u39, u40, u41, u42, u43, u44, u45, u46, u47, u48, u49, u50, u51, u52, u53, u54, u55, u56, u57, u58, u59, u60, u61, u62, u63, u64, u65, u66, u67, u68, u69, u70, u71, u72, u73, u74, u75, u76, u77, u78, u79, u80, u81, u82, u83, u84, u85, u86, u87, u88, u89, u90, u91, u92, u93, u94, u95, u96, u97, u98, u99, u100, u101, u102, u103, v104, v105, v106, v107, v108, v109, v110, v111, v112, v113, v114, v115, v116, u117, u118, u119, u120, u121, u122, u123, u124, u125, u126, u127, u128, u129, u130, u131, u132, u133, u134, u135, u136, u137, u138, u139, u140, u141, u142, u143, u144, u145, u146, u147, u148, u149, u150, u151, u152, u153, u154, u155, u156, u157, u158, u159, u160, u161, u162, u163, u164, u165, u166, u167, u168, u169, u170, u171, u172, u173, u174, u175, u176, u177, u178, u179, u180, u181, u182, u183, u184, u185, u186, u187, u188, u189, u190, u191, u192, u193, u194, u195, u196, u197, u198, u199, u200, u201, u202, u203, u204, u205, u206, u207, u208, u209, u210, u211, u212, u213, u214, u215, u216, u217, u218, u219, u220, u221, u222, u223, u224, u225, u226, u227, u228, u229, u230, u231, u232, u233, u234, u235, u236, u237, u238, u239, u240, u241, u242, u243, u244, u245, u246], []⟩ w') :
    Code.wp Try.prog (cL (cR (cR (cR (cR (cR (cR (cR (cL (cR (cL (cR (cR (cR (cL (cL (cR (cL (cL (cR (cL (cR (cR (Try.f5.body.getD .skip)))))))))))))))))))))))) Q ⟨#[u0, u1, u2, .pointer (some ⟨g, 0, none⟩), .pointer (some ⟨gx, 0, none⟩), u5, .pointer (some ⟨go, 0, none⟩), u7, u8, u9, u10, u11, u12, u13, u14, u15, u16, u17, u18, u19, u20, u21, u22, u23, u24, u25, u26, u27, u28, u29, u30, u31, u32, u33, u34, u35, u36, u37, u38, u39, u40, u41, u42, u43, u44, u45, u46, u47, u48, u49, u50, u51, u52, u53, u54, u55, u56, u57, u58, u59, u60, u61, u62, u63, u64, u65, u66, u67, u68, u69, u70, u71, u72, u73, u74, u75, u76, u77, u78, u79, u80, u81, u82, u83, u84, u85, u86, u87, u88, u89, u90, u91, u92, u93, u94, u95, u96, u97, u98, u99, u100, u101, u102, u103, u104, u105, u106, u107, u108, u109, u110, u111, u112, u113, u114, u115, u116, u117, u118, u119, u120, u121, u122, u123, u124, u125, u126, u127, u128, u129, u130, u131, u132, u133, u134, u135, u136, u137, u138, u139, u140, u141, u142, u143, u144, u145, u146, u147, u148, u149, u150, u151, u152, u153, u154, u155, u156, u157, u158, u159, u160, u161, u162, u163, u164, u165, u166, u167, u168, u169, u170, u171, u172, u173, u174, u175, u176, u177, u178, u179, u180, u181, u182, u183, u184, u185, u186, u187, u188, u189, u190, u191, u192, u193, u194, u195, u196, u197, u198, u199, u200, u201, u202, u203, u204, u205, u206, u207, u208, u209, u210, u211, u212, u213, u214, u215, u216, u217, u218, u219, u220, u221, u222, u223, u224, u225, u226, u227, u228, u229, u230, u231, u232, u233, u234, u235, u236, u237, u238, u239, u240, u241, u242, u243, u244, u245, u246], []⟩ wo := by
  obtain ⟨y0, y1, y2, y3, y4⟩ := Blk.cells5 HB.out.2.2.2.2.2.1
  unfold Try.f5
  dsimp only [cL, cR, Option.getD_some]
  refine wp_region_N (S := fun w' => w'.cell? ⟨go, 0, none⟩ = some (.int .i64 kd) ∧ w'.cell? ⟨go, 1, none⟩ = some (.int .i64 oi) ∧ w'.cell? ⟨go, 2, none⟩ = some (.int .i64 oa) ∧ w'.cell? ⟨go, 3, none⟩ = some (.int .i64 on) ∧ w'.cell? ⟨go, 4, none⟩ = some (.slice oA l oc)) 99 (by kernel_rfl) ⟨y0, y1, y2, y3, y4⟩ (fun hHeld => ?_)
  refine wpAnyN_take (i := 0) (v := ?rnv5r19x3_0) rfl (by kernel_rfl) (by kernel_rfl) (by kernel_rfl) (fun c a w h => hP c a _ _ w h) (by decide) (by kernel_rfl) (Or.inl ⟨by rfl, ?rny5r19x3_0⟩) (by assumption) ?rnr5r19x3_0
  case rny5r19x3_0 => (intro w hSw; (try dsimp only at hSw); go_simp; try with_reducible rfl)
  try simp only [Act.put, List.setIfInBounds_toArray, List.set_cons_zero, List.set_cons_succ, List.getElem_toArray, List.getElem_cons_zero, List.getElem_cons_succ]
  refine wpAnyN_take (i := 1) (v := ?rnv5r19x3_1) rfl (by kernel_rfl) (by kernel_rfl) (by kernel_rfl) (fun c a w h => hP c a _ _ w h) (by decide) (by kernel_rfl) (Or.inl ⟨by rfl, ?rny5r19x3_1⟩) (by assumption) ?rnr5r19x3_1
  case rny5r19x3_1 => (intro w hSw; (try dsimp only at hSw); go_simp; try with_reducible rfl)
  try simp only [Act.put, List.setIfInBounds_toArray, List.set_cons_zero, List.set_cons_succ, List.getElem_toArray, List.getElem_cons_zero, List.getElem_cons_succ]
  refine wpAnyN_take (i := 2) (v := ?rnv5r19x3_2) rfl (by kernel_rfl) (by kernel_rfl) (by kernel_rfl) (fun c a w h => hP c a _ _ w h) (by decide) (by kernel_rfl) (Or.inl ⟨by rfl, ?rny5r19x3_2⟩) (by assumption) ?rnr5r19x3_2
  case rny5r19x3_2 => (intro w hSw; (try dsimp only at hSw); go_simp; try with_reducible rfl)
  try simp only [Act.put, List.setIfInBounds_toArray, List.set_cons_zero, List.set_cons_succ, List.getElem_toArray, List.getElem_cons_zero, List.getElem_cons_succ]
  refine wpAnyN_take (i := 3) (v := ?rnv5r19x3_3) rfl (by kernel_rfl) (by kernel_rfl) (by kernel_rfl) (fun c a w h => hP c a _ _ w h) (by decide) (by kernel_rfl) (Or.inl ⟨by rfl, ?rny5r19x3_3⟩) (by assumption) ?rnr5r19x3_3
  case rny5r19x3_3 => (intro w hSw; (try dsimp only at hSw); go_simp; try with_reducible rfl)
  try simp only [Act.put, List.setIfInBounds_toArray, List.set_cons_zero, List.set_cons_succ, List.getElem_toArray, List.getElem_cons_zero, List.getElem_cons_succ]
  refine wpAnyN_take (i := 4) (v := ?rnv5r19x3_4) rfl (by kernel_rfl) (by kernel_rfl) (by kernel_rfl) (fun c a w h => hP c a _ _ w h) (by decide) (by kernel_rfl) (Or.inl ⟨by rfl, ?rny5r19x3_4⟩) (by assumption) ?rnr5r19x3_4
  case rny5r19x3_4 => (intro w hSw; (try dsimp only at hSw); go_simp; try with_reducible rfl)
  try simp only [Act.put, List.setIfInBounds_toArray, List.set_cons_zero, List.set_cons_succ, List.getElem_toArray, List.getElem_cons_zero, List.getElem_cons_succ]
  refine wpAnyN_take (i := 6) (v := ?rnv5r19x3_6) rfl (by kernel_rfl) (by kernel_rfl) (by kernel_rfl) (fun c a w h => hP c a _ _ w h) (by decide) (by kernel_rfl) (Or.inl ⟨by rfl, ?rny5r19x3_6⟩) (by assumption) ?rnr5r19x3_6
  case rny5r19x3_6 => (intro w hSw; (try dsimp only at hSw); go_simp; try with_reducible rfl)
  try simp only [Act.put, List.setIfInBounds_toArray, List.set_cons_zero, List.set_cons_succ, List.getElem_toArray, List.getElem_cons_zero, List.getElem_cons_succ]
  refine wpAnyN_take (i := 7) (v := ?rnv5r19x3_7) rfl (by kernel_rfl) (by kernel_rfl) (by kernel_rfl) (fun c a w h => hP c a _ _ w h) (by decide) (by kernel_rfl) (Or.inl ⟨by rfl, ?rny5r19x3_7⟩) (by assumption) ?rnr5r19x3_7
  case rny5r19x3_7 => (intro w hSw; (try dsimp only at hSw); go_simp; try with_reducible rfl)
  try simp only [Act.put, List.setIfInBounds_toArray, List.set_cons_zero, List.set_cons_succ, List.getElem_toArray, List.getElem_cons_zero, List.getElem_cons_succ]
  refine wpAnyN_take (i := 8) (v := ?rnv5r19x3_8) rfl (by kernel_rfl) (by kernel_rfl) (by kernel_rfl) (fun c a w h => hP c a _ _ w h) (by decide) (by kernel_rfl) (Or.inl ⟨by rfl, ?rny5r19x3_8⟩) (by assumption) ?rnr5r19x3_8
  case rny5r19x3_8 => (intro w hSw; (try dsimp only at hSw); go_simp; try with_reducible rfl)
  try simp only [Act.put, List.setIfInBounds_toArray, List.set_cons_zero, List.set_cons_succ, List.getElem_toArray, List.getElem_cons_zero, List.getElem_cons_succ]
  refine wpAnyN_take (i := 9) (v := ?rnv5r19x3_9) rfl (by kernel_rfl) (by kernel_rfl) (by kernel_rfl) (fun c a w h => hP c a _ _ w h) (by decide) (by kernel_rfl) (Or.inl ⟨by rfl, ?rny5r19x3_9⟩) (by assumption) ?rnr5r19x3_9
  case rny5r19x3_9 => (intro w hSw; (try dsimp only at hSw); go_simp; try with_reducible rfl)
  try simp only [Act.put, List.setIfInBounds_toArray, List.set_cons_zero, List.set_cons_succ, List.getElem_toArray, List.getElem_cons_zero, List.getElem_cons_succ]
  refine wpAnyN_take (i := 10) (v := ?rnv5r19x3_10) rfl (by kernel_rfl) (by kernel_rfl) (by kernel_rfl) (fun c a w h => hP c a _ _ w h) (by decide) (by kernel_rfl) (Or.inl ⟨by rfl, ?rny5r19x3_10⟩) (by assumption) ?rnr5r19x3_10
  case rny5r19x3_10 => (intro w hSw; (try dsimp only at hSw); go_simp; try with_reducible rfl)
  try simp only [Act.put, List.setIfInBounds_toArray, List.set_cons_zero, List.set_cons_succ, List.getElem_toArray, List.getElem_cons_zero, List.getElem_cons_succ]
  refine wpAnyN_one (i := 5) (by kernel_rfl) rfl (fun K hK => ?_)
  go_simp
  refine (move_any _ g g k L se lo oi oa (HB.out.2.2.2.2.2.2.2.2.1.frmN (Frm.refl No _).drew) HB.out.1 B1).mono ?_
  rintro e w3 ⟨rfl, ⟨k3, W3, a3⟩, f3⟩
  obtain ⟨X3, ap3, F3, b3, -⟩ := mid_ HB.out.2.2.2.2.2.2.2.2.1 HB.out.2.2.2.2.2.2.1 HB.out.2.2.2.2.1 HB.out.2.2.2.2.2.2.2.1 hgl a3 (((Frm.refl (fun x => x = g ∨ k = some x) wo).drew).then f3 (fun x hx => .inl (by rcases hx with rfl; exact .inl rfl)))
  have hO3 := b3 _ _ HB.out.2.2.2.2.2.1
  have Y3 := Blk.cells5 hO3
  have B3 : g ≤ w3.heap.size := by have := F3.size; omega
  have HW3 := Lib.hid (And.intro W3 (And.intro X3 (And.intro ap3 (And.intro F3 hO3))))
  clear W3 X3 ap3 F3 b3 hO3 a3 f3
  go_wp2_with fail
  refine hK.out _ _ (fun _ => ?_) (fun hHeld => ?_)
  · exact Y3
  have hHeld := hHeld (by decide)
  clear hK K
  try simp only [Act.put, List.setIfInBounds_toArray, List.set_cons_zero, List.set_cons_succ, List.getElem_toArray, List.getElem_cons_zero, List.getElem_cons_succ]
  refine wpAnyN_one (i := 11) (by kernel_rfl) rfl (fun K hK => ?_)
  go_simp
  refine (rmove_any _ g gx kx L se lo oi oa HW3.out.2.1 B3).mono ?_
  rintro e w5 ⟨rfl, ⟨k5, X5, a5⟩, f5⟩
  obtain ⟨W5, ap5, F5, b5, -⟩ := fin_ HW3.out.1 HW3.out.2.1 HW3.out.2.2.1 HW3.out.2.2.2.1 hgl hgxl a5 (f5.mono fun x hx => .inl hx)
  have Y5 := Blk.cells5 (b5 _ _ HW3.out.2.2.2.2)
  have HW5 := Lib.hid (And.intro W5 (And.intro X5 (And.intro ap5 F5)))
  clear W5 X5 ap5 F5 a5 f5 b5
  go_wp2_with fail
  refine hK.out _ _ (fun _ => ?_) (fun hHeld => ?_)
  · exact Y5
  have hHeld := hHeld (by decide)
  clear hK K
  try simp only [Act.put, List.setIfInBounds_toArray, List.set_cons_zero, List.set_cons_succ, List.getElem_toArray, List.getElem_cons_zero, List.getElem_cons_succ]
  refine wpAnyN_take (i := 12) (v := ?rnv5r19x3_12) rfl (by kernel_rfl) (by kernel_rfl) (by kernel_rfl) (fun c a w h => hP c a _ _ w h) (by decide) (by kernel_rfl) (Or.inl ⟨by rfl, ?rny5r19x3_12⟩) (by assumption) ?rnr5r19x3_12
  case rny5r19x3_12 => (intro w hSw; (try dsimp only at hSw); go_simp; try with_reducible rfl)
  try simp only [Act.put, List.setIfInBounds_toArray, List.set_cons_zero, List.set_cons_succ, List.getElem_toArray, List.getElem_cons_zero, List.getElem_cons_succ]
  refine wpAnyN_take (i := 13) (v := ?rnv5r19x3_13) rfl (by kernel_rfl) (by kernel_rfl) (by kernel_rfl) (fun c a w h => hP c a _ _ w h) (by decide) (by kernel_rfl) (Or.inl ⟨by rfl, ?rny5r19x3_13⟩) (by assumption) ?rnr5r19x3_13
  case rny5r19x3_13 => (intro w hSw; (try dsimp only at hSw); go_simp; try with_reducible rfl)
  try simp only [Act.put, List.setIfInBounds_toArray, List.set_cons_zero, List.set_cons_succ, List.getElem_toArray, List.getElem_cons_zero, List.getElem_cons_succ]
  refine wpAnyN_done (by kernel_rfl) ?_ _
  apply hQ
  have hsum := HB.out.2.2.2.2.2.2.2.2.2
  have W5 := HW5.out.1
  have X5 := HW5.out.2.1
  by_cases hE : moveE L oi oa = 0
  · have hin : 0 ≤ oi ∧ oi < L.length := by
      unfold moveE at hE
      by_cases hc : askI L oi = 0 ∧ askI L oa = 0
      · exact askI_in hc.1
      · rw [if_neg hc] at hE; cases hE
    have hcl := moveL_len (L := L) (i := oi.toNat) (t := oa.toNat) (by omega)
    rw [if_pos hE] at W5 X5
    exact ⟨_, k5, _, _, _, W5, X5, HW5.out.2.2.1, fits_move HB.out.1, by omega, by push_cast; omega, by omega, HW5.out.2.2.2⟩
  · rw [if_neg hE] at W5 X5
    exact ⟨_, k5, _, _, _, W5, X5, HW5.out.2.2.1, HB.out.1, hsum, by push_cast; omega, l0, HW5.out.2.2.2⟩
set_option maxRecDepth 100000 in
set_option maxHeartbeats 16000000 in
theorem sw4 {w wo : World} {g gx go j : Nat} {k kx : Option Nat} {L : List (List Nat)} {se lo kd oi oa on : Int} {oA : Option Addr} {l oc : Nat} {bs : List Nat} (hgl : w.heap.size ≤ g) (hgl2 : g ≤ w.heap.size) (hgxl : w.heap.size ≤ gx) (l0 : 0 ≤ lo) (s1 : se ≤ (j : Int)) (hL : L.length ≤ 256) (hl63 : l ≤ 9223372036854775807) (B1 : g ≤ wo.heap.size) (hj : j ≤ 400)
    (HB : Hid (Fits L ∧ Bin w oA bs ∧ bs.length = l ∧ (∀ c ∈ bs, c < 256) ∧ Apart k kx ∧ Blk wo go #[.int .i64 kd, .int .i64 oi, .int .i64 oa, .int .i64 on, .slice oA l oc] 41 ∧ IsR wo g gx kx L se lo ∧ Frm No w wo ∧ IsW wo g g k L se lo ∧ lo + L.length ≤ se))
    {Q : Exit → Act → World → Prop} {u0 u1 u2 u5 u7 u8 u9 u10 u11 u12 u13 u14 u15 u16 u17 u18 u19 u20 u21 u22 u23 u24 u25 u26 u27 u28 u29 u30 u31 u32 u33 u34 u35 u36 u37 u38 u39 u40 u41 u42 u43 u44 u45 u46 u47 u48 u49 u50 u51 u52 u53 u54 u55 u56 u57 u58 u59 u60 u61 u62 u63 u64 u65 u66 u67 u68 u69 u70 u71 u72 u73 u74 u75 u76 u77 u78 u79 u80 u81 u82 u83 u84 u85 u86 u87 u88 u89 u90 u91 u92 u93 u94 u95 u96 u97 u98 u99 u100 u101 u102 u103 u104 u105 u106 u107 u108 u109 u110 u111 u112 u113 u114 u115 u116 u117 u118 u119 u120 u121 u122 u123 u124 u125 u126 u127 u128 u129 u130 u131 u132 u133 u134 u135 u136 u137 u138 u139 u140 u141 u142 u143 u144 u145 u146 u147 u148 u149 u150 u151 u152 u153 u154 u155 u156 u157 u158 u159 u160 u161 u162 u163 u164 u165 u166 u167 u168 u169 u170 u171 u172 u173 u174 u175 u176 u177 u178 u179 u180 u181 u182 u183 u184 u185 u186 u187 u188 u189 u190 u191 u192 u193 u194 u195 u196 u197 u198 u199 u200 u201 u202 u203 u204 u205 u206 u207 u208 u209 u210 u211 u212 u213 u214 u215 u216 u217 u218 u219 u220 u221 u222 u223 u224 u225 u226 u227 u228 u229 u230 u231 u232 u233 u234 u235 u236 u237 u238 u239 u240 u241 u242 u243 u244 u245 u246 : Value}
    (hP : ∀ c (a : Act) (d : Nat) v w, Q (.panic c) (a.put (some d) v) w → Q (.panic c) a w)
    (hQ : ∀ (v119 v120 v121 v122 v123 v124 v125 v126 v127 v128 v129 v130 v131 v132 v133 v134 v135 : Value) (w' : World), LV w w' g gx (j + 1) → Q .normal ⟨#[u0, u1, u2, .pointer (some ⟨g, 0, none⟩), .pointer (some ⟨gx, 0, none⟩), u5, .pointer (some ⟨go, 0, none⟩), .bool true, u8, u9, u10, u11, u12, u13, u14, u15, u16, u17, u18, u19, u20, u21, u22, u23, u24, u25, u26, u27, u28, u29, u30, u31, u32, u33, u34, u35, u36, u37, u38, u39, u40, u41, u42, u43, u44, u45, u46, u47, u48, u49, u50, u51, u52, u53, u54, u55, u56, u57, u58, u59, u60, u61, u62, u63, u64, u65, u66, u67, u68, u69, u70, u71, u72, u73, u74, u75, u76, u77, u78, u79, u80, u81, u82, u83, u84, u85, u86, u87, u88, u89, u90, u91, u92, u93, u94, u95, u96, u97, u98, u99, u100, u101, u102, u103, u104, u105, u106, u107, u108, u109, u110, u111, u112, u113, u114, u115, u116, u117, u118, v119, v120, v121, v122, v123, v124, v125, v126, v127, v128, v129, v130, v131, v132, v133, v134, v135, u136, u137, u138, u139, u140, u141, u142, u143, u144, u145, u146, u147, u148, u149, u150, u151, u152, u153, u154, u155, u156, u157, u158, u159, u160, u161, u162, u163, u164, u165, u166, u167, u168, u169, u170, u171, u172, u173, u174, u175, u176, u177, u178, u179, u180, u181, u182, u183, u184, u185, u186, u187, u188, u189, u190, u191, u192, u193, u194, u195, u196, u197, u198, u199, u200, u201, u202, u203, u204, u205, u206, u207, u208, u209, u210, u211, u212, u213, u214, u215, u216, u217, u218, u219, u220, u221, u222, u223, u224, u225, u226, u227, u228, u229, u230, u231, u232, u233, u234, u235, u236, u237, u238, u239, u240, u241, u242, u243, u244, u245, u246], []⟩ w') :
    Code.wp Try.prog (cL (cR (cR (cR (cR (cR (cR (cR (cR (cR (cL (cR (cL (cR (cR (cR (cL (cL (cR (cL (cL (cR (cL (cR (cR (Try.f5.body.getD .skip)))))))))))))))))))))))))) Q ⟨#[u0, u1, u2, .pointer (some ⟨g, 0, none⟩), .pointer (some ⟨gx, 0, none⟩), u5, .pointer (some ⟨go, 0, none⟩), u7, u8, u9, u10, u11, u12, u13, u14, u15, u16, u17, u18, u19, u20, u21, u22, u23, u24, u25, u26, u27, u28, u29, u30, u31, u32, u33, u34, u35, u36, u37, u38, u39, u40, u41, u42, u43, u44, u45, u46, u47, u48, u49, u50, u51, u52, u53, u54, u55, u56, u57, u58, u59, u60, u61, u62, u63, u64, u65, u66, u67, u68, u69, u70, u71, u72, u73, u74, u75, u76, u77, u78, u79, u80, u81, u82, u83, u84, u85, u86, u87, u88, u89, u90, u91, u92, u93, u94, u95, u96, u97, u98, u99, u100, u101, u102, u103, u104, u105, u106, u107, u108, u109, u110, u111, u112, u113, u114, u115, u116, u117, u118, u119, u120, u121, u122, u123, u124, u125, u126, u127, u128, u129, u130, u131, u132, u133, u134, u135, u136, u137, u138, u139, u140, u141, u142, u143, u144, u145, u146, u147, u148, u149, u150, u151, u152, u153, u154, u155, u156, u157, u158, u159, u160, u161, u162, u163, u164, u165, u166, u167, u168, u169, u170, u171, u172, u173, u174, u175, u176, u177, u178, u179, u180, u181, u182, u183, u184, u185, u186, u187, u188, u189, u190, u191, u192, u193, u194, u195, u196, u197, u198, u199, u200, u201, u202, u203, u204, u205, u206, u207, u208, u209, u210, u211, u212, u213, u214, u215, u216, u217, u218, u219, u220, u221, u222, u223, u224, u225, u226, u227, u228, u229, u230, u231, u232, u233, u234, u235, u236, u237, u238, u239, u240, u241, u242, u243, u244, u245, u246], []⟩ wo := by
  obtain ⟨y0, y1, y2, y3, y4⟩ := Blk.cells5 HB.out.2.2.2.2.2.1
  unfold Try.f5
  dsimp only [cL, cR, Option.getD_some]
  refine wp_region_N (S := fun w' => w'.cell? ⟨go, 0, none⟩ = some (.int .i64 kd) ∧ w'.cell? ⟨go, 1, none⟩ = some (.int .i64 oi) ∧ w'.cell? ⟨go, 2, none⟩ = some (.int .i64 oa) ∧ w'.cell? ⟨go, 3, none⟩ = some (.int .i64 on) ∧ w'.cell? ⟨go, 4, none⟩ = some (.slice oA l oc)) 99 (by kernel_rfl) ⟨y0, y1, y2, y3, y4⟩ (fun hHeld => ?_)
  refine wpAnyN_take (i := 0) (v := ?rnv5r21x4_0) rfl (by kernel_rfl) (by kernel_rfl) (by kernel_rfl) (fun c a w h => hP c a _ _ w h) (by decide) (by kernel_rfl) (Or.inl ⟨by rfl, ?rny5r21x4_0⟩) (by assumption) ?rnr5r21x4_0
  case rny5r21x4_0 => (intro w hSw; (try dsimp only at hSw); go_simp; try with_reducible rfl)
  try simp only [Act.put, List.setIfInBounds_toArray, List.set_cons_zero, List.set_cons_succ, List.getElem_toArray, List.getElem_cons_zero, List.getElem_cons_succ]
  refine wpAnyN_take (i := 1) (v := ?rnv5r21x4_1) rfl (by kernel_rfl) (by kernel_rfl) (by kernel_rfl) (fun c a w h => hP c a _ _ w h) (by decide) (by kernel_rfl) (Or.inl ⟨by rfl, ?rny5r21x4_1⟩) (by assumption) ?rnr5r21x4_1
  case rny5r21x4_1 => (intro w hSw; (try dsimp only at hSw); go_simp; try with_reducible rfl)
  try simp only [Act.put, List.setIfInBounds_toArray, List.set_cons_zero, List.set_cons_succ, List.getElem_toArray, List.getElem_cons_zero, List.getElem_cons_succ]
  refine wpAnyN_take (i := 2) (v := ?rnv5r21x4_2) rfl (by kernel_rfl) (by kernel_rfl) (by kernel_rfl) (fun c a w h => hP c a _ _ w h) (by decide) (by kernel_rfl) (Or.inl ⟨by rfl, ?rny5r21x4_2⟩) (by assumption) ?rnr5r21x4_2
  case rny5r21x4_2 => (intro w hSw; (try dsimp only at hSw); go_simp; try with_reducible rfl)
  try simp only [Act.put, List.setIfInBounds_toArray, List.set_cons_zero, List.set_cons_succ, List.getElem_toArray, List.getElem_cons_zero, List.getElem_cons_succ]
  refine wpAnyN_take (i := 3) (v := ?rnv5r21x4_3) rfl (by kernel_rfl) (by kernel_rfl) (by kernel_rfl) (fun c a w h => hP c a _ _ w h) (by decide) (by kernel_rfl) (Or.inl ⟨by rfl, ?rny5r21x4_3⟩) (by assumption) ?rnr5r21x4_3
  case rny5r21x4_3 => (intro w hSw; (try dsimp only at hSw); go_simp; try with_reducible rfl)
  try simp only [Act.put, List.setIfInBounds_toArray, List.set_cons_zero, List.set_cons_succ, List.getElem_toArray, List.getElem_cons_zero, List.getElem_cons_succ]
  refine wpAnyN_take (i := 4) (v := ?rnv5r21x4_4) rfl (by kernel_rfl) (by kernel_rfl) (by kernel_rfl) (fun c a w h => hP c a _ _ w h) (by decide) (by kernel_rfl) (Or.inl ⟨by rfl, ?rny5r21x4_4⟩) (by assumption) ?rnr5r21x4_4
  case rny5r21x4_4 => (intro w hSw; (try dsimp only at hSw); go_simp; try with_reducible rfl)
  try simp only [Act.put, List.setIfInBounds_toArray, List.set_cons_zero, List.set_cons_succ, List.getElem_toArray, List.getElem_cons_zero, List.getElem_cons_succ]
  refine wpAnyN_take (i := 5) (v := ?rnv5r21x4_5) rfl (by kernel_rfl) (by kernel_rfl) (by kernel_rfl) (fun c a w h => hP c a _ _ w h) (by decide) (by kernel_rfl) (Or.inl ⟨by rfl, ?rny5r21x4_5⟩) (by assumption) ?rnr5r21x4_5
  case rny5r21x4_5 => (intro w hSw; (try dsimp only at hSw); go_simp; try with_reducible rfl)
  try simp only [Act.put, List.setIfInBounds_toArray, List.set_cons_zero, List.set_cons_succ, List.getElem_toArray, List.getElem_cons_zero, List.getElem_cons_succ]
  refine wpAnyN_take (i := 6) (v := ?rnv5r21x4_6) rfl (by kernel_rfl) (by kernel_rfl) (by kernel_rfl) (fun c a w h => hP c a _ _ w h) (by decide) (by kernel_rfl) (Or.inl ⟨by rfl, ?rny5r21x4_6⟩) (by assumption) ?rnr5r21x4_6
  case rny5r21x4_6 => (intro w hSw; (try dsimp only at hSw); go_simp; try with_reducible rfl)
  try simp only [Act.put, List.setIfInBounds_toArray, List.set_cons_zero, List.set_cons_succ, List.getElem_toArray, List.getElem_cons_zero, List.getElem_cons_succ]
  refine wpAnyN_take (i := 8) (v := ?rnv5r21x4_8) rfl (by kernel_rfl) (by kernel_rfl) (by kernel_rfl) (fun c a w h => hP c a _ _ w h) (by decide) (by kernel_rfl) (Or.inl ⟨by rfl, ?rny5r21x4_8⟩) (by assumption) ?rnr5r21x4_8
  case rny5r21x4_8 => (intro w hSw; (try dsimp only at hSw); go_simp; try with_reducible rfl)
  try simp only [Act.put, List.setIfInBounds_toArray, List.set_cons_zero, List.set_cons_succ, List.getElem_toArray, List.getElem_cons_zero, List.getElem_cons_succ]
  refine wpAnyN_take (i := 9) (v := ?rnv5r21x4_9) rfl (by kernel_rfl) (by kernel_rfl) (by kernel_rfl) (fun c a w h => hP c a _ _ w h) (by decide) (by kernel_rfl) (Or.inl ⟨by rfl, ?rny5r21x4_9⟩) (by assumption) ?rnr5r21x4_9
  case rny5r21x4_9 => (intro w hSw; (try dsimp only at hSw); go_simp; try with_reducible rfl)
  try simp only [Act.put, List.setIfInBounds_toArray, List.set_cons_zero, List.set_cons_succ, List.getElem_toArray, List.getElem_cons_zero, List.getElem_cons_succ]
  refine wpAnyN_take (i := 10) (v := ?rnv5r21x4_10) rfl (by kernel_rfl) (by kernel_rfl) (by kernel_rfl) (fun c a w h => hP c a _ _ w h) (by decide) (by kernel_rfl) (Or.inl ⟨by rfl, ?rny5r21x4_10⟩) (by assumption) ?rnr5r21x4_10
  case rny5r21x4_10 => (intro w hSw; (try dsimp only at hSw); go_simp; try with_reducible rfl)
  try simp only [Act.put, List.setIfInBounds_toArray, List.set_cons_zero, List.set_cons_succ, List.getElem_toArray, List.getElem_cons_zero, List.getElem_cons_succ]
  refine wpAnyN_take (i := 11) (v := ?rnv5r21x4_11) rfl (by kernel_rfl) (by kernel_rfl) (by kernel_rfl) (fun c a w h => hP c a _ _ w h) (by decide) (by kernel_rfl) (Or.inl ⟨by rfl, ?rny5r21x4_11⟩) (by assumption) ?rnr5r21x4_11
  case rny5r21x4_11 => (intro w hSw; (try dsimp only at hSw); go_simp; try with_reducible rfl)
  try simp only [Act.put, List.setIfInBounds_toArray, List.set_cons_zero, List.set_cons_succ, List.getElem_toArray, List.getElem_cons_zero, List.getElem_cons_succ]
  refine wpAnyN_take (i := 12) (v := ?rnv5r21x4_12) rfl (by kernel_rfl) (by kernel_rfl) (by kernel_rfl) (fun c a w h => hP c a _ _ w h) (by decide) (by kernel_rfl) (Or.inl ⟨by rfl, ?rny5r21x4_12⟩) (by assumption) ?rnr5r21x4_12
  case rny5r21x4_12 => (intro w hSw; (try dsimp only at hSw); go_simp; try with_reducible rfl)
  try simp only [Act.put, List.setIfInBounds_toArray, List.set_cons_zero, List.set_cons_succ, List.getElem_toArray, List.getElem_cons_zero, List.getElem_cons_succ]
  refine wpAnyN_take (i := 13) (v := ?rnv5r21x4_13) rfl (by kernel_rfl) (by kernel_rfl) (by kernel_rfl) (fun c a w h => hP c a _ _ w h) (by decide) (by kernel_rfl) (Or.inl ⟨by rfl, ?rny5r21x4_13⟩) (by assumption) ?rnr5r21x4_13
  case rny5r21x4_13 => (intro w hSw; (try dsimp only at hSw); go_simp; try with_reducible rfl)
  try simp only [Act.put, List.setIfInBounds_toArray, List.set_cons_zero, List.set_cons_succ, List.getElem_toArray, List.getElem_cons_zero, List.getElem_cons_succ]
  refine wpAnyN_take (i := 14) (v := ?rnv5r21x4_14) rfl (by kernel_rfl) (by kernel_rfl) (by kernel_rfl) (fun c a w h => hP c a _ _ w h) (by decide) (by kernel_rfl) (Or.inl ⟨by rfl, ?rny5r21x4_14⟩) (by assumption) ?rnr5r21x4_14
  case rny5r21x4_14 => (intro w hSw; (try dsimp only at hSw); go_simp; try with_reducible rfl)
  try simp only [Act.put, List.setIfInBounds_toArray, List.set_cons_zero, List.set_cons_succ, List.getElem_toArray, List.getElem_cons_zero, List.getElem_cons_succ]
  refine wpAnyN_one (i := 7) (by kernel_rfl) rfl (fun K hK => ?_)
  go_simp
  refine (spoil_any _ g g k L se lo oi oa on (HB.out.2.2.2.2.2.2.2.2.1.frmN (Frm.refl No _).drew) HB.out.1).mono ?_
  rintro e w3 ⟨rfl, W3, f3⟩
  have a3 : Anew wo k k := .inl rfl
  obtain ⟨k3, hk3⟩ : ∃ k3, k = k3 := ⟨_, rfl⟩
  rw [hk3] at W3
  have a3 : Anew wo k k3 := .inl hk3.symm
  obtain ⟨X3, ap3, F3, b3, -⟩ := mid_ HB.out.2.2.2.2.2.2.2.2.1 HB.out.2.2.2.2.2.2.1 HB.out.2.2.2.2.1 HB.out.2.2.2.2.2.2.2.1 hgl a3 (((Frm.refl (fun x => x = g ∨ k = some x) wo).drew).then f3 (fun x hx => .inl (by exact .inr hx)))
  have hO3 := b3 _ _ HB.out.2.2.2.2.2.1
  have Y3 := Blk.cells5 hO3
  have B3 : g ≤ w3.heap.size := by have := F3.size; omega
  have HW3 := Lib.hid (And.intro W3 (And.intro X3 (And.intro ap3 (And.intro F3 hO3))))
  clear W3 X3 ap3 F3 b3 hO3 a3 f3
  go_wp2_with fail
  refine hK.out _ _ (fun _ => ?_) (fun hHeld => ?_)
  · exact Y3
  have hHeld := hHeld (by decide)
  clear hK K
  try simp only [Act.put, List.setIfInBounds_toArray, List.set_cons_zero, List.set_cons_succ, List.getElem_toArray, List.getElem_cons_zero, List.getElem_cons_succ]
  refine wpAnyN_one (i := 15) (by kernel_rfl) rfl (fun K hK => ?_)
  go_simp
  refine (rspoil_any _ g gx kx L se lo oi oa on HW3.out.2.1 HB.out.1 B3).mono ?_
  rintro e w5 ⟨rfl, ⟨k5, X5, a5⟩, f5⟩
  obtain ⟨W5, ap5, F5, b5, -⟩ := fin_ HW3.out.1 HW3.out.2.1 HW3.out.2.2.1 HW3.out.2.2.2.1 hgl hgxl a5 (f5.mono fun x hx => .inl hx)
  have Y5 := Blk.cells5 (b5 _ _ HW3.out.2.2.2.2)
  have HW5 := Lib.hid (And.intro W5 (And.intro X5 (And.intro ap5 F5)))
  clear W5 X5 ap5 F5 a5 f5 b5
  go_wp2_with fail
  refine hK.out _ _ (fun _ => ?_) (fun hHeld => ?_)
  · exact Y5
  have hHeld := hHeld (by decide)
  clear hK K
  try simp only [Act.put, List.setIfInBounds_toArray, List.set_cons_zero, List.set_cons_succ, List.getElem_toArray, List.getElem_cons_zero, List.getElem_cons_succ]
  refine wpAnyN_take (i := 16) (v := ?rnv5r21x4_16) rfl (by kernel_rfl) (by kernel_rfl) (by kernel_rfl) (fun c a w h => hP c a _ _ w h) (by decide) (by kernel_rfl) (Or.inl ⟨by rfl, ?rny5r21x4_16⟩) (by assumption) ?rnr5r21x4_16
  case rny5r21x4_16 => (intro w hSw; (try dsimp only at hSw); go_simp; try with_reducible rfl)
  try simp only [Act.put, List.setIfInBounds_toArray, List.set_cons_zero, List.set_cons_succ, List.getElem_toArray, List.getElem_cons_zero, List.getElem_cons_succ]
  refine wpAnyN_take (i := 17) (v := ?rnv5r21x4_17) rfl (by kernel_rfl) (by kernel_rfl) (by kernel_rfl) (fun c a w h => hP c a _ _ w h) (by decide) (by kernel_rfl) (Or.inl ⟨by rfl, ?rny5r21x4_17⟩) (by assumption) ?rnr5r21x4_17
  case rny5r21x4_17 => (intro w hSw; (try dsimp only at hSw); go_simp; try with_reducible rfl)
  try simp only [Act.put, List.setIfInBounds_toArray, List.set_cons_zero, List.set_cons_succ, List.getElem_toArray, List.getElem_cons_zero, List.getElem_cons_succ]
  refine wpAnyN_done (by kernel_rfl) ?_ _
  apply hQ
  have hsum := HB.out.2.2.2.2.2.2.2.2.2
  have W5 := HW5.out.1
  have X5 := HW5.out.2.1
  by_cases hE : spE L oi oa = 0
  · have hin : 0 ≤ oa ∧ oa < 4 * ((L.getD oi.toNat []).length : Int) := by
      unfold spE at hE
      by_cases hc : askI L oi = 0 ∧ 0 ≤ oa ∧ oa < 4 * ((L.getD oi.toNat []).length : Int)
      · exact hc.2
      · rw [if_neg hc] at hE; cases hE
    have hcl : (L.set oi.toNat (spoilB (L.getD oi.toNat []) oa.toNat on)).length = L.length := by rw [List.length_set]
    rw [if_pos hE] at W5 X5
    exact ⟨_, k5, _, _, _, W5, X5, HW5.out.2.2.1, fits_set HB.out.1 (by omega), by omega, by push_cast; omega, by omega, HW5.out.2.2.2⟩
  · rw [if_neg hE] at W5 X5
    exact ⟨_, k5, _, _, _, W5, X5, HW5.out.2.2.1, HB.out.1, hsum, by push_cast; omega, l0, HW5.out.2.2.2⟩
end Go.Proofs.Ytbhkhabkkghapaa.A
