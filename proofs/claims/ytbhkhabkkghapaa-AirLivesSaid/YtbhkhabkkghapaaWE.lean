/- Take, Lose. -/
import Derived.Test.YtbhkhabkkghapaaWC
namespace Go.Proofs.Ytbhkhabkkghapaa.A
open Go.RowKit Go.Proofs.Ytbhkhabkkghapaa.K Go.Proofs.Ytbhkhabkkghapaa.N Go.Proofs.Ytbhkhabkkghapaa.F
set_option linter.unusedVariables false
set_option linter.unusedSimpArgs false

theorem vals_one (S : List Bl) : ∀ u ∈ S.map Bl.val, u.oneCell' = true := fun u hu => by
  obtain ⟨b, _, rfl⟩ := List.mem_map.1 hu
  rfl
theorem RdL.take {w : World} {S : List Bl} {L : List (List Nat)} (h : RdL w S L) (i : Nat) : RdL w (S.take i) (L.take i) := by
  obtain ⟨h1, h2⟩ := h
  refine ⟨by rw [List.length_take, List.length_take, h1], fun j hj => ?_⟩
  rw [List.length_take] at hj
  rw [List.getD_eq_getElem?_getD, List.getD_eq_getElem?_getD, List.getElem?_take_of_lt (by omega), List.getElem?_take_of_lt (by omega), ← List.getD_eq_getElem?_getD, ← List.getD_eq_getElem?_getD]
  exact h2 j (by omega)
theorem RdL.drop {w : World} {S : List Bl} {L : List (List Nat)} (h : RdL w S L) (i : Nat) : RdL w (S.drop i) (L.drop i) := by
  obtain ⟨h1, h2⟩ := h
  refine ⟨by rw [List.length_drop, List.length_drop, h1], fun j hj => ?_⟩
  rw [List.length_drop] at hj
  rw [List.getD_eq_getElem?_getD, List.getD_eq_getElem?_getD, List.getElem?_drop, List.getElem?_drop, ← List.getD_eq_getElem?_getD, ← List.getD_eq_getElem?_getD]
  exact h2 _ (by omega)
theorem RdL.both {w : World} {S S' : List Bl} {L L' : List (List Nat)} (h : RdL w S L) (h' : RdL w S' L') : RdL w (S ++ S') (L ++ L') := by
  obtain ⟨h1, h2⟩ := h
  obtain ⟨h3, h4⟩ := h'
  refine ⟨by simp [h1, h3], fun j hj => ?_⟩
  rw [List.length_append] at hj
  rw [List.getD_eq_getElem?_getD, List.getD_eq_getElem?_getD]
  by_cases hjl : j < L.length
  · rw [List.getElem?_append_left (by omega), List.getElem?_append_left hjl, ← List.getD_eq_getElem?_getD, ← List.getD_eq_getElem?_getD]
    exact h2 j hjl
  · rw [List.getElem?_append_right (by omega), List.getElem?_append_right (by omega), h1, ← List.getD_eq_getElem?_getD, ← List.getD_eq_getElem?_getD]
    exact h4 _ (by omega)
/-- The row of a way, another one. -/
theorem way_row {w W2 : World} {B g m base : Nat} {k : Option Nat} {S' : List Bl} {L' : List (List Nat)} {se lo : Int} {u v : Value} (hb : Blk w g #[.bool true, u, .int .i64 se, .int .i64 lo] 48) (F : Frm No w W2)
    (own : W2.ownsRow base 22 1 v m (S'.map Bl.val)) (hm : L'.length = m) (hm2 : m ≤ 256) (hB : B ≤ base) (hw : w.heap.size ≤ base) (hrd : RdL W2 S' L') :
    IsW (W2.setCell ⟨g, 1, none⟩ v) B g v.ownBlock L' se lo ∧ Anew w k v.ownBlock ∧ Frm (fun x => x = g) w (W2.setCell ⟨g, 1, none⟩ v) := by
  have hb2 := F.blk hb (fun h => h)
  have G : Frm (fun x => x = g) W2 (W2.setCell ⟨g, 1, none⟩ v) := (Frm.refl (fun x => x = g) W2).self 1 v
  have hrow : RowS W2 B v v.ownBlock S' L' := ⟨by rw [hm]; exact own_lower own hB, rfl, hrd⟩
  refine ⟨⟨by omega, v, S', ?_, hrow.frm G (fun x hx e => ?_) (fun x cs hx e => ?_)⟩, .inr fun x hx => Nat.le_trans hw (own_blk own hx).1, ?_⟩
  · simpa using hb2.set 1 v
  · obtain ⟨_, cs, hc⟩ := own_blk own hx
    subst e
    exact Blk.ne hc hb2 (by decide) rfl
  · subst e
    exact Blk.ne hx hb2 (by decide) rfl
  · exact (F.mono fun _ h => h.elim).then G (fun x hx => .inl hx)
/-- Without one of them. -/
def cutL (L : List (List Nat)) (i : Nat) : List (List Nat) := L.take i ++ L.drop (i + 1)
set_option maxRecDepth 100000 in
set_option maxHeartbeats 4000000 in
theorem take_any (w : World) (B g : Nat) (k : Option Nat) (L : List (List Nat)) (se lo i : Int) (h : IsW w B g k L se lo) (hF : Fits L) (hB : B ≤ w.heap.size) : Calls Try.prog 15 #[.pointer (some ⟨g, 0, none⟩), .int .i64 i] w fun e w' =>
    ∃ b : Bl, e = .returned (.tuple #[b.val, .int .i64 (askI L i)]) ∧ IsB w' b (if askI L i = 0 then L.getD i.toNat [] else []) ∧ (∃ k', IsW w' B g k' (if askI L i = 0 then cutL L i.toNat else L) se lo ∧ Anew w k k') ∧ Frm (fun x => x = g) w w' := by
  have hat := at_any w B g k L se lo i h hF
  by_cases hin : 0 ≤ i ∧ i < L.length
  · have hE : askI L i = 0 := if_pos hin
    rw [hE] at hat ⊢
    rw [if_pos rfl] at hat ⊢
    rw [if_pos rfl]
    obtain ⟨h0, h1⟩ := hin
    obtain ⟨j, rfl⟩ := Int.eq_ofNat_of_zero_le h0
    rw [Int.toNat_natCast] at hat ⊢
    have hL := h.1
    obtain ⟨A, c, S, hb, hlc, hr⟩ := h.cells
    obtain ⟨n, hn⟩ : ∃ n, L.length = n := ⟨_, rfl⟩
    rw [hn] at hb hlc hr h1 hL
    have hrd : Rds w 1 A n (S.map Bl.val) := by
      obtain ⟨A', c', e, -, hrd⟩ := hr.slice
      injection e with e1 e2 e3
      subst e1
      rw [hn] at hrd
      exact hrd
    obtain ⟨ad, rfl, -, -⟩ := hrd.2 (by omega)
    have r1 := hrd.take (k := j) (by omega)
    have r2 := hrd.drop (k := j + 1) (by omega) hlc
    rw [Nat.mul_one, ← List.map_take] at r1
    rw [Nat.mul_one, ← List.map_drop] at r2
    have k1 : w.cell? ⟨g, 1, none⟩ = some (.slice (some ad) n c) := hb.cell 1
    have i0 : (0 : Int) ≤ (j : Int) := Int.natCast_nonneg _
    have i2 : (n : Int) ≤ (c : Int) := by omega
    have i3 : (j : Int) + 1 ≤ (n : Int) := by omega
    have j1 : j ≤ c := by omega
    have j2 : j + 1 ≤ n := by omega
    have j3 : n ≤ c := hlc
    have p1 : (0 : Int) ≤ (j : Int) + 1 := by omega
    have p2 : IntKind.i64.wrap ((j : Int) + 1) = (j : Int) + 1 := IntWalk.i64_in _ ⟨by omega, by omega⟩
    have p3 : ((j : Int) + 1).toNat = j + 1 := by omega
    obtain ⟨A2, hA2⟩ : ∃ A2, (if c = j + 1 then some ad else some (ad.add (j + 1))) = A2 := ⟨_, rfl⟩
    have r2' : Rds w 1 A2 (n - (j + 1)) ((S.drop (j + 1)).map Bl.val) := by
      rw [← hA2]; exact r2
    have hrl := hr.2.2
    have X := Lib.hid (And.intro hb (And.intro hrl hn))
    have hcc : ∀ w1, Frm No w w1 → ∀ cs, cs = #[Value.slice (some ad) j c, .slice A2 (n - (j + 1)) (c - (j + 1))] → Calls Try.prog 31 #[.slice (some ⟨w1.heap.size, 0, none⟩) 2 2] (w1.alloc (.cells cs 32)).drew fun e w' => ∃ A3 c3, e = .returned (.slice A3 (n - 1) c3) ∧ w'.ownsRow w1.heap.size 22 1 (.slice A3 (n - 1) c3) (n - 1) ((S.take j ++ S.drop (j + 1)).map Bl.val) ∧ Frm No w w' ∧ Frm No w1 w' ∧ w'.cell? ⟨g, 1, none⟩ = some (.slice (some ad) n c) ∧ w'.frozen? ⟨g, 1, none⟩ = false := fun w1 F1 cs hcs => by
      subst hcs
      have FA := ((Frm.refl No w1).alloc (.cells #[Value.slice (some ad) j c, .slice A2 (n - (j + 1)) (c - (j + 1))] 32)).drew
      refine (concat_ok _ w1.heap.size 2 2 [⟨some ad, j, c, (S.take j).map Bl.val⟩, ⟨A2, n - (j + 1), c - (j + 1), (S.drop (j + 1)).map Bl.val⟩] rfl (Blk.new w1 _ 32).drew (fun q hq => ?_) (fun q hq => ?_) ?_ (by omega)).mono ?_
      · match q, hq with
        | 0, _ => exact (r1.frmN F1).frmN FA
        | 1, _ => exact (r2'.frmN F1).frmN FA
      · match q, hq with
        | 0, _ => exact vals_one _
        | 1, _ => exact vals_one _
      · show j + (n - (j + 1) + 0) ≤ 100000; omega
      · rintro e w' ⟨v, rfl, own, F⟩
        have F2 := FA.thenN F
        have hb2 := (F1.thenN F2).blk hb (fun h => h)
        have e1 : slN [⟨some ad, j, c, (S.take j).map Bl.val⟩, ⟨A2, n - (j + 1), c - (j + 1), (S.drop (j + 1)).map Bl.val⟩] 2 = n - 1 := by show j + (n - (j + 1) + 0) = n - 1; omega
        have e2 : slX [⟨some ad, j, c, (S.take j).map Bl.val⟩, ⟨A2, n - (j + 1), c - (j + 1), (S.drop (j + 1)).map Bl.val⟩] 2 = (S.take j ++ S.drop (j + 1)).map Bl.val := by
          rw [List.map_append]; simp [slX]
        rw [e1, e2] at own
        obtain ⟨A3, c3, rfl, -, -⟩ := own_is own
        exact ⟨A3, c3, rfl, own_lower own (by simp), F1.thenN F2, F2, hb2.cell 1, hb2.free 1⟩
    have HCC := Lib.hid hcc
    clear hcc hb hr hrd r1 r2 r2' hrl hn hE
    by_cases hci : c = j + 1
    · rw [if_pos hci] at hA2
      subst hA2
      subst hci
      obtain rfl : n = j + 1 := by omega
      have p4 : (j : Int) ≤ (j : Int) + 1 := by omega
      clear hlc
      go_enter Try.func15, Try.ntmps15
      go_wp2_with fail
      refine hat.mono ?_
      rintro e w1 ⟨⟨bA, bn, bc⟩, rfl, hb1, F1⟩
      have hbk := F1.blk X.out.1 (fun h => h)
      have k1' : w1.cell? ⟨g, 1, none⟩ = some (.slice (some ad) (j + 1) (j + 1)) := hbk.cell 1
      have hgl := hbk.lt
      clear hbk
      go_wp2_with fail
      go_region_law ((go_simp; go_at_call 31; refine (HCC.out _ F1 _ (by simp)).mono ?_; rintro e w2 ⟨A3, c3, rfl, own, F, G, kc, kz⟩))
      all_goals go_wp2_with fail
      all_goals go_ret2
      all_goals obtain ⟨q1, q2, q3⟩ := way_row (k := k) (B := B) (L' := cutL L j) X.out.1 F own (by unfold cutL; rw [List.length_append, List.length_take, List.length_drop, X.out.2.2]; omega) (by omega) (by have := F1.size; omega) F1.size (((X.out.2.1.take j).both (X.out.2.1.drop (j + 1))).frm F (fun _ _ _ h => h))
      all_goals exact ⟨⟨bA, bn, bc⟩, rfl, (hb1.frmN G).frm ((Frm.refl (fun x => x = g) w2).self 1 _) (fun x cs hx e => by subst e; exact Blk.ne hx (F.blk X.out.1 (fun h => h)) (by decide) rfl), ⟨_, q1, q2⟩, q3⟩
    · rw [if_neg hci] at hA2
      subst hA2
      go_enter Try.func15, Try.ntmps15
      go_wp2_with fail
      refine hat.mono ?_
      rintro e w1 ⟨⟨bA, bn, bc⟩, rfl, hb1, F1⟩
      have hbk := F1.blk X.out.1 (fun h => h)
      have k1' : w1.cell? ⟨g, 1, none⟩ = some (.slice (some ad) n c) := hbk.cell 1
      have hgl := hbk.lt
      clear hbk
      go_wp2_with fail
      go_region_law ((go_simp; go_at_call 31; refine (HCC.out _ F1 _ rfl).mono ?_; rintro e w2 ⟨A3, c3, rfl, own, F, G, kc, kz⟩))
      all_goals go_wp2_with fail
      all_goals go_ret2
      all_goals obtain ⟨q1, q2, q3⟩ := way_row (k := k) (B := B) (L' := cutL L j) X.out.1 F own (by unfold cutL; rw [List.length_append, List.length_take, List.length_drop, X.out.2.2]; omega) (by omega) (by have := F1.size; omega) F1.size (((X.out.2.1.take j).both (X.out.2.1.drop (j + 1))).frm F (fun _ _ _ h => h))
      all_goals exact ⟨⟨bA, bn, bc⟩, rfl, (hb1.frmN G).frm ((Frm.refl (fun x => x = g) w2).self 1 _) (fun x cs hx e => by subst e; exact Blk.ne hx (F.blk X.out.1 (fun h => h)) (by decide) rfl), ⟨_, q1, q2⟩, q3⟩
  · have hE : askI L i = 1 := if_neg hin
    rw [hE] at hat ⊢
    rw [if_neg (by decide)] at hat ⊢
    rw [if_neg (by decide)]
    clear hin hE
    go_enter Try.func15, Try.ntmps15
    go_wp2_with fail
    refine hat.mono ?_
    rintro e w1 ⟨b, rfl, hb1, F1⟩
    go_wp2_with fail
    go_ret2
    exact ⟨b, rfl, hb1, ⟨k, h.frmN F1, .inl rfl⟩, F1.mono fun _ h => h.elim⟩
theorem IsW.put3 {w : World} {B g : Nat} {k : Option Nat} {L : List (List Nat)} {se lo : Int} (h : IsW w B g k L se lo) (v : Int) : w.cell? ⟨g, 3, none⟩ = some (.int .i64 lo) ∧ w.frozen? ⟨g, 3, none⟩ = false ∧ IsW (w.setCell ⟨g, 3, none⟩ (.int .i64 v)) B g k L se v ∧ Frm (fun x => x = g) w (w.setCell ⟨g, 3, none⟩ (.int .i64 v)) := by
  obtain ⟨h0, u, S, hb, hr⟩ := h
  have G : Frm (fun x => x = g) w (w.setCell ⟨g, 3, none⟩ (.int .i64 v)) := (Frm.refl (fun x => x = g) w).self 3 _
  refine ⟨hb.cell 3, hb.free 3, ⟨h0, u, S, by simpa using hb.set 3 (.int .i64 v), hr.frm G (fun x hx e => ?_) (fun x cs hx e => ?_)⟩, G⟩
  · obtain ⟨_, cs, hc⟩ := hr.blk hx
    subst e
    exact Blk.ne hc hb (by decide) rfl
  · subst e
    exact Blk.ne hx hb (by decide) rfl
theorem lose_any (w : World) (B g : Nat) (k : Option Nat) (L : List (List Nat)) (se lo i : Int) (h : IsW w B g k L se lo) (hF : Fits L) (hB : B ≤ w.heap.size) (hb1 : -1000000000 ≤ lo) (hb2 : lo ≤ 1000000000) : Calls Try.prog 17 #[.pointer (some ⟨g, 0, none⟩), .int .i64 i] w fun e w' =>
    e = .returned (.int .i64 (askI L i)) ∧ (∃ k', IsW w' B g k' (if askI L i = 0 then cutL L i.toNat else L) se (if askI L i = 0 then lo + 1 else lo) ∧ Anew w k k') ∧ Frm (fun x => x = g) w w' := by
  have ht := take_any w B g k L se lo i h hF hB
  obtain ⟨E, hE⟩ : ∃ E, askI L i = E := ⟨_, rfl⟩
  rw [hE] at ht ⊢
  have hE2 : E = 0 ∨ E = 1 := by rw [← hE]; unfold askI; split <;> simp
  clear hE
  rcases hE2 with rfl | rfl
  · rw [if_pos rfl, if_pos rfl] at ht
    rw [if_pos rfl, if_pos rfl]
    go_enter Try.func17, Try.ntmps17
    go_wp2_with fail
    refine ht.mono ?_
    rintro e w1 ⟨b, rfl, -, ⟨k', hW, hA⟩, F1⟩
    obtain ⟨c3, z3, hW3, F3⟩ := hW.put3 (lo + 1)
    go_wp2_with fail
    go_ret
    exact ⟨rfl, ⟨k', hW3, hA⟩, F1.then F3 (fun x hx => .inl hx)⟩
  · rw [if_neg (by decide), if_neg (by decide)] at ht
    rw [if_neg (by decide), if_neg (by decide)]
    go_enter Try.func17, Try.ntmps17
    go_wp2_with fail
    refine ht.mono ?_
    rintro e w1 ⟨b, rfl, -, hW, F1⟩
    go_wp2_with fail
    go_ret
    exact ⟨rfl, hW, F1⟩
end Go.Proofs.Ytbhkhabkkghapaa.A
