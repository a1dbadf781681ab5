/- Send. -/
import Derived.Test.YtbhkhabkkghapaaWC
import Derived.Deep.RegionLawGrows
import Derived.Test.YtbhkhabkkghapaaRN
namespace Go.Proofs.Ytbhkhabkkghapaa.A
open Go.RowKit Go.Proofs.Ytbhkhabkkghapaa.K Go.Proofs.Ytbhkhabkkghapaa.N Go.Proofs.Ytbhkhabkkghapaa.F
set_option linter.unusedVariables false
set_option linter.unusedSimpArgs false

theorem clone_x (w : World) (A : Option Addr) (n c : Nat) (L : List Nat) (h : Bin w A L) (hl : L.length = n) (hn : n ≤ 100000) : Calls Try.prog 25 #[.slice A n c] w fun e w' => ∃ bA bc, e = .returned (.slice bA n bc) ∧ IsB w' ⟨bA, n, bc⟩ L ∧ Frm No w w' := by
  refine (clone_ok w A n c L h hl hn).mono ?_
  rintro e w' ⟨⟨bA, bn, bc⟩, rfl, hb, f⟩
  have e : bn = n := hb.1.trans hl
  subst e
  exact ⟨bA, bc, rfl, hb, f⟩
theorem val_one (S : List Bl) : ∀ u ∈ S.map Bl.val, u.oneCell' = true := fun u hu => by
  obtain ⟨b, _, rfl⟩ := List.mem_map.1 hu
  rfl
theorem RdL.app {w : World} {S : List Bl} {L : List (List Nat)} {b : Bl} {bs : List Nat} (h : RdL w S L) (hb : IsB w b bs) : RdL w (S ++ [b]) (L ++ [bs]) := by
  obtain ⟨h1, h2⟩ := h
  refine ⟨by simp [h1], fun j hj => ?_⟩
  rw [List.length_append, List.length_singleton] at hj
  rw [List.getD_eq_getElem?_getD, List.getD_eq_getElem?_getD]
  by_cases hjl : j < L.length
  · rw [List.getElem?_append_left (by omega), List.getElem?_append_left hjl, ← List.getD_eq_getElem?_getD, ← List.getD_eq_getElem?_getD]
    exact h2 j hjl
  · obtain rfl : j = L.length := by omega
    rw [List.getElem?_append_right (by omega), List.getElem?_append_right (Nat.le_refl _), h1, Nat.sub_self]
    exact hb
theorem send_fin {w W4 : World} {B g m base : Nat} {k : Option Nat} {S : List Bl} {L : List (List Nat)} {se lo : Int} {u v : Value} {b : Bl} {bs : List Nat} (hb : Blk w g #[.bool true, u, .int .i64 se, .int .i64 lo] 48) (F : Frm No w W4)
    (hr : RowS w B u k S L) (hm : L.length = m) (hm2 : m < 256) (own : W4.ownsRow base 22 1 v (m + 1) (S.map Bl.val ++ [b.val])) (hB : B ≤ base) (hw : w.heap.size ≤ base) (hbs : IsB W4 b bs) :
    IsW ((W4.setCell ⟨g, 1, none⟩ v).setCell ⟨g, 2, none⟩ (.int .i64 (se + 1))) B g v.ownBlock (L ++ [bs]) (se + 1) lo ∧ Anew w k v.ownBlock ∧ Frm (fun x => x = g) w ((W4.setCell ⟨g, 1, none⟩ v).setCell ⟨g, 2, none⟩ (.int .i64 (se + 1))) := by
  have hb4 := F.blk hb (fun h => h)
  have G : Frm (fun x => x = g) W4 ((W4.setCell ⟨g, 1, none⟩ v).setCell ⟨g, 2, none⟩ (.int .i64 (se + 1))) := ((Frm.refl (fun x => x = g) W4).self 1 v).self 2 (.int .i64 (se + 1))
  have hfin := (hb4.set 1 v).set 2 (.int .i64 (se + 1))
  have hrow : RowS W4 B v v.ownBlock (S ++ [b]) (L ++ [bs]) := by
    refine ⟨?_, rfl, (hr.frmN F).2.2.app hbs⟩
    rw [List.length_append, List.length_singleton, hm, List.map_append]
    exact own_lower own hB
  refine ⟨⟨by simp; omega, v, S ++ [b], ?_, hrow.frm G (fun x hx e => ?_) (fun x cs hx e => ?_)⟩, .inr fun x hx => Nat.le_trans hw (own_blk own hx).1, ?_⟩
  · simpa using hfin
  · obtain ⟨_, cs, hc⟩ := own_blk own hx
    subst e
    exact Blk.ne hc hb4 (by decide) rfl
  · subst e
    exact Blk.ne hx hb4 (by decide) rfl
  · exact (F.mono fun _ h => h.elim).then G (fun x hx => .inl hx)
def sendE (L : List (List Nat)) (n : Nat) : Int := if 4096 < n then 2 else if 256 ≤ L.length then 5 else 0
set_option maxRecDepth 100000 in
set_option maxHeartbeats 4000000 in
theorem send_any (w : World) (B g : Nat) (k : Option Nat) (L : List (List Nat)) (se lo : Int) (A : Option Addr) (n c : Nat) (bs : List Nat) (h : IsW w B g k L se lo) (hbs : Bin w A bs) (hn : bs.length = n) (hn9 : n ≤ 9223372036854775807) (hB : B ≤ w.heap.size)
    (hs1 : -1000000000 ≤ se) (hs2 : se ≤ 1000000000) :
    Calls Try.prog 9 #[.pointer (some ⟨g, 0, none⟩), .slice A n c] w fun e w' => e = .returned (.int .i64 (sendE L n)) ∧
      (∃ k', IsW w' B g k' (if sendE L n = 0 then L ++ [bs] else L) (if sendE L n = 0 then se + 1 else se) lo ∧ Anew w k k') ∧ Frm (fun x => x = g) w w' := by
  have h9 := h
  have hL := h.1
  obtain ⟨A1, c1, S, hb, hlc, hr⟩ := h.cells
  have k0 : w.cell? ⟨g, 0, none⟩ = some (.bool true) := hb.cell 0
  obtain ⟨E, hE⟩ : ∃ E, sendE L n = E := ⟨_, rfl⟩
  rw [hE]
  unfold sendE at hE
  by_cases h1 : 4096 < n
  · rw [if_pos h1] at hE
    subst hE
    rw [if_neg (by decide), if_neg (by decide)]
    have h1' : (4096 : Int) < (n : Int) := by omega
    clear hb hr
    go_enter Try.func9, Try.ntmps9
    go_wp2_with fail
    go_ret
    exact ⟨rfl, ⟨k, h9, .inl rfl⟩, Frm.refl _ _⟩
  · rw [if_neg h1] at hE
    have h1' : ¬ (4096 : Int) < (n : Int) := by omega
    obtain ⟨m, hm⟩ : ∃ m, L.length = m := ⟨_, rfl⟩
    rw [hm] at hE hL hb hlc hr
    have k1 : w.cell? ⟨g, 1, none⟩ = some (.slice A1 m c1) := hb.cell 1
    by_cases h2 : 256 ≤ m
    · rw [if_pos h2] at hE
      subst hE
      rw [if_neg (by decide), if_neg (by decide)]
      have h2' : (256 : Int) ≤ (m : Int) := by omega
      clear hb hr
      go_enter Try.func9, Try.ntmps9
      go_wp2_with fail
      go_ret
      exact ⟨rfl, ⟨k, h9, .inl rfl⟩, Frm.refl _ _⟩
    · rw [if_neg h2] at hE
      subst hE
      rw [if_pos rfl, if_pos rfl]
      have h2' : ¬ (256 : Int) ≤ (m : Int) := by omega
      obtain ⟨i0, hi, hz0, hz1, hz2⟩ := info_parts info22
      obtain ⟨A', c', e, -, hrd⟩ := hr.slice
      injection e with e1 e2 e3
      subst e1
      subst e3
      clear e2
      rw [hm] at hrd
      have hcl := fun w' (f : Frm No w w') => clone_x w' A n c bs (hbs.frmN f) hn (by omega)
      have hgl := hb.lt
      have j1 : m ≤ c1 := hlc
      have j2 : (m : Int) ≤ (c1 : Int) := by omega
      have m0 : (0 : Int) ≤ (m : Int) := Int.natCast_nonneg _
      have hnone : A1 = none → m = 0 ∧ m = 0 := fun e => by
        rcases Nat.eq_zero_or_pos m with h0 | h0
        · exact ⟨h0, h0⟩
        · obtain ⟨ad, e', _⟩ := hrd.2 h0
          rw [e] at e'; cases e'
      have hlo : (S.map Bl.val).length = m * 1 := hrd.1
      have hcs : ∀ w' (f : Frm No w w') b, A1 = some b → ∀ j u, (S.map Bl.val)[j]? = some u → w'.cell? (b.add j) = some u := fun w' f b e j u hu => by
        have h0 : 0 < m := by
          have := (List.getElem?_eq_some_iff.1 hu).1
          omega
        obtain ⟨ad, e', -, hc⟩ := (hrd.frmN f).2 h0
        rw [e] at e'
        injection e' with e'
        subst e'
        exact hc j u hu
      have X := Lib.hid (And.intro hcl (And.intro hnone (And.intro hlo hcs)))
      have HR := Lib.hid (And.intro hr (And.intro hb hm))
      clear hcl hnone hlo hcs hr hb hrd hm h9 hbs hn
      go_enter Try.func9, Try.ntmps9
      go_wp2_with fail
      refine wp_region_N (S := fun w' => w'.cell? ⟨g, 1, none⟩ = some (.slice A1 m c1)) 22 (by kernel_rfl) k1 (fun hHeld => ?_)
      refine wpAnyN_take (i := 0) (v := ?rnv9r7_0) rfl (by kernel_rfl) (by kernel_rfl) (by kernel_rfl) (fun _ _ _ h => h) (by decide) (by kernel_rfl) (Or.inl ⟨by rfl, ?rny9r7_0⟩) (by assumption) ?rnr9r7_0
      case rny9r7_0 => (intro w hSw; (try dsimp only at hSw); go_simp; try with_reducible rfl)
      try simp only [Act.put, List.setIfInBounds_toArray, List.set_cons_zero, List.set_cons_succ, List.getElem_toArray, List.getElem_cons_zero, List.getElem_cons_succ]
      refine wpAnyN_take (i := 1) (v := ?rnv9r7_1) rfl (by kernel_rfl) (by kernel_rfl) (by kernel_rfl) (fun _ _ _ h => h) (by decide) (by kernel_rfl) (Or.inl ⟨by rfl, ?rny9r7_1⟩) (by assumption) ?rnr9r7_1
      case rny9r7_1 => (intro w hSw; (try dsimp only at hSw); go_simp; try with_reducible rfl)
      try simp only [Act.put, List.setIfInBounds_toArray, List.set_cons_zero, List.set_cons_succ, List.getElem_toArray, List.getElem_cons_zero, List.getElem_cons_succ]
      refine wpAnyN_take (i := 2) (v := ?rnv9r7_2) rfl (by kernel_rfl) (by kernel_rfl) (by kernel_rfl) (fun _ _ _ h => h) (by decide) (by kernel_rfl) (Or.inl ⟨by rfl, ?rny9r7_2⟩) (by assumption) ?rnr9r7_2
      case rny9r7_2 => (intro w hSw; (try dsimp only at hSw); go_simp; try with_reducible rfl)
      try simp only [Act.put, List.setIfInBounds_toArray, List.set_cons_zero, List.set_cons_succ, List.getElem_toArray, List.getElem_cons_zero, List.getElem_cons_succ]
      refine wpAnyN_take (i := 3) (v := ?rnv9r7_3) rfl (by kernel_rfl) (by kernel_rfl) (by kernel_rfl) (fun _ _ _ h => h) (by decide) (by kernel_rfl) (Or.inl ⟨by rfl, ?rny9r7_3⟩) (by assumption) ?rnr9r7_3
      case rny9r7_3 => (intro w hSw; (try dsimp only at hSw); go_simp; try with_reducible rfl)
      try simp only [Act.put, List.setIfInBounds_toArray, List.set_cons_zero, List.set_cons_succ, List.getElem_toArray, List.getElem_cons_zero, List.getElem_cons_succ]
      refine wpAnyN_take (i := 4) (v := ?rnv9r7_4) rfl (by kernel_rfl) (by kernel_rfl) (by kernel_rfl) (fun _ _ _ h => h) (by decide) (by kernel_rfl) (Or.inl ⟨by rfl, ?rny9r7_4⟩) (by assumption) ?rnr9r7_4
      case rny9r7_4 => (intro w hSw; (try dsimp only at hSw); go_simp; try with_reducible rfl)
      try simp only [Act.put, List.setIfInBounds_toArray, List.set_cons_zero, List.set_cons_succ, List.getElem_toArray, List.getElem_cons_zero, List.getElem_cons_succ]
      refine wpAnyN_take (i := 5) (v := ?rnv9r7_5) rfl (by kernel_rfl) (by kernel_rfl) (by kernel_rfl) (fun _ _ _ h => h) (by decide) (by kernel_rfl) (Or.inl ⟨by rfl, ?rny9r7_5⟩) (by assumption) ?rnr9r7_5
      case rny9r7_5 => (intro w hSw; (try dsimp only at hSw); go_simp; try with_reducible rfl)
      try simp only [Act.put, List.setIfInBounds_toArray, List.set_cons_zero, List.set_cons_succ, List.getElem_toArray, List.getElem_cons_zero, List.getElem_cons_succ]
      refine wpAnyN_take (i := 6) (v := ?rnv9r7_6) rfl (by kernel_rfl) (by kernel_rfl) (by kernel_rfl) (fun _ _ _ h => h) (by decide) (by kernel_rfl) (Or.inl ⟨by rfl, ?rny9r7_6⟩) (by assumption) ?rnr9r7_6
      case rny9r7_6 => (intro w hSw; (try dsimp only at hSw); go_simp; try with_reducible rfl)
      try simp only [Act.put, List.setIfInBounds_toArray, List.set_cons_zero, List.set_cons_succ, List.getElem_toArray, List.getElem_cons_zero, List.getElem_cons_succ]
      refine wpAnyN_take (i := 7) (v := ?rnv9r7_7) rfl (by kernel_rfl) (by kernel_rfl) (by kernel_rfl) (fun _ _ _ h => h) (by decide) (by kernel_rfl) (Or.inl ⟨by rfl, ?rny9r7_7⟩) (by assumption) ?rnr9r7_7
      case rny9r7_7 => (intro w hSw; (try dsimp only at hSw); go_simp; try with_reducible rfl)
      try simp only [Act.put, List.setIfInBounds_toArray, List.set_cons_zero, List.set_cons_succ, List.getElem_toArray, List.getElem_cons_zero, List.getElem_cons_succ]
      refine wpAnyN_take (i := 8) (v := ?rnv9r7_8) rfl (by kernel_rfl) (by kernel_rfl) (by kernel_rfl) (fun _ _ _ h => h) (by decide) (by kernel_rfl) (Or.inl ⟨by rfl, ?rny9r7_8⟩) (by assumption) ?rnr9r7_8
      case rny9r7_8 => (intro w hSw; (try dsimp only at hSw); go_simp; try with_reducible rfl)
      try simp only [Act.put, List.setIfInBounds_toArray, List.set_cons_zero, List.set_cons_succ, List.getElem_toArray, List.getElem_cons_zero, List.getElem_cons_succ]
      refine wpAnyN_take (i := 9) (v := ?rnv9r7_9) rfl (by kernel_rfl) (by kernel_rfl) (by kernel_rfl) (fun _ _ _ h => h) (by decide) (by kernel_rfl) (Or.inl ⟨by rfl, ?rny9r7_9⟩) (by assumption) ?rnr9r7_9
      case rny9r7_9 => (intro w hSw; (try dsimp only at hSw); go_simp; try with_reducible rfl)
      try simp only [Act.put, List.setIfInBounds_toArray, List.set_cons_zero, List.set_cons_succ, List.getElem_toArray, List.getElem_cons_zero, List.getElem_cons_succ]
      refine wpAnyN_take (i := 10) (v := ?rnv9r7_10) rfl (by kernel_rfl) (by kernel_rfl) (by kernel_rfl) (fun _ _ _ h => h) (by decide) (by kernel_rfl) (Or.inl ⟨by rfl, ?rny9r7_10⟩) (by assumption) ?rnr9r7_10
      case rny9r7_10 => (intro w hSw; (try dsimp only at hSw); go_simp; try with_reducible rfl)
      try simp only [Act.put, List.setIfInBounds_toArray, List.set_cons_zero, List.set_cons_succ, List.getElem_toArray, List.getElem_cons_zero, List.getElem_cons_succ]
      refine wpAnyN_take (i := 11) (v := ?rnv9r7_11) rfl (by kernel_rfl) (by kernel_rfl) (by kernel_rfl) (fun _ _ _ h => h) (by decide) (by kernel_rfl) (Or.inl ⟨by rfl, ?rny9r7_11⟩) (by assumption) ?rnr9r7_11
      case rny9r7_11 => (intro w hSw; (try dsimp only at hSw); go_simp; try with_reducible rfl)
      try simp only [Act.put, List.setIfInBounds_toArray, List.set_cons_zero, List.set_cons_succ, List.getElem_toArray, List.getElem_cons_zero, List.getElem_cons_succ]
      refine wpAnyN_take (i := 12) (v := ?rnv9r7_12) rfl (by kernel_rfl) (by kernel_rfl) (by kernel_rfl) (fun _ _ _ h => h) (by decide) (by kernel_rfl) (Or.inl ⟨by rfl, ?rny9r7_12⟩) (by assumption) ?rnr9r7_12
      case rny9r7_12 => (intro w hSw; (try dsimp only at hSw); go_simp; try with_reducible rfl)
      try simp only [Act.put, List.setIfInBounds_toArray, List.set_cons_zero, List.set_cons_succ, List.getElem_toArray, List.getElem_cons_zero, List.getElem_cons_succ]
      refine wpAnyN_take (i := 13) (v := ?rnv9r7_13) rfl (by kernel_rfl) (by kernel_rfl) (by kernel_rfl) (fun _ _ _ h => h) (by decide) (by kernel_rfl) (Or.inl ⟨by rfl, ?rny9r7_13⟩) (by assumption) ?rnr9r7_13
      case rny9r7_13 => (intro w hSw; (try dsimp only at hSw); go_simp; try with_reducible rfl)
      try simp only [Act.put, List.setIfInBounds_toArray, List.set_cons_zero, List.set_cons_succ, List.getElem_toArray, List.getElem_cons_zero, List.getElem_cons_succ]
      refine wpAnyN_take (i := 14) (v := ?rnv9r7_14) rfl (by kernel_rfl) (by kernel_rfl) (by kernel_rfl) (fun _ _ _ h => h) (by decide) (by kernel_rfl) (Or.inl ⟨by rfl, ?rny9r7_14⟩) (by assumption) ?rnr9r7_14
      case rny9r7_14 => (intro w hSw; (try dsimp only at hSw); go_simp; try with_reducible rfl)
      try simp only [Act.put, List.setIfInBounds_toArray, List.set_cons_zero, List.set_cons_succ, List.getElem_toArray, List.getElem_cons_zero, List.getElem_cons_succ]
      refine wpAnyN_take (i := 15) (v := ?rnv9r7_15) rfl (by kernel_rfl) (by kernel_rfl) (by kernel_rfl) (fun _ _ _ h => h) (by decide) (by kernel_rfl) (Or.inl ⟨by rfl, ?rny9r7_15⟩) (by assumption) ?rnr9r7_15
      case rny9r7_15 => (intro w hSw; (try dsimp only at hSw); go_simp; try with_reducible rfl)
      try simp only [Act.put, List.setIfInBounds_toArray, List.set_cons_zero, List.set_cons_succ, List.getElem_toArray, List.getElem_cons_zero, List.getElem_cons_succ]
      refine wpAnyN_take (i := 16) (v := ?rnv9r7_16) rfl (by kernel_rfl) (by kernel_rfl) (by kernel_rfl) (fun _ _ _ h => h) (by decide) (by kernel_rfl) (Or.inl ⟨by rfl, ?rny9r7_16⟩) (by assumption) ?rnr9r7_16
      case rny9r7_16 => (intro w hSw; (try dsimp only at hSw); go_simp; try with_reducible rfl)
      try simp only [Act.put, List.setIfInBounds_toArray, List.set_cons_zero, List.set_cons_succ, List.getElem_toArray, List.getElem_cons_zero, List.getElem_cons_succ]
      refine wpAnyN_one (i := 17) (by kernel_rfl) rfl (fun K hK => ?_)
      go_simp
      refine (X.out.1 _ (by exact (Frm.refl No _).drew)).mono ?_
      rintro e w3 ⟨bA, bc, rfl, hb3, F3⟩
      go_wp2_with fail
      have F3' := (Frm.refl No w).drew.thenN F3
      have hb4 := F3'.blk HR.out.2.1 (fun h => h)
      have k4 : w3.cell? ⟨g, 1, none⟩ = some (.slice A1 m c1) := hb4.cell 1
      have hgl3 := hb4.lt
      refine hK.out _ _ (fun _ => ?_) (fun hHeld => ?_)
      · exact k4
      have hHeld := hHeld (by decide)
      clear hK K
      try simp only [Act.put, List.setIfInBounds_toArray, List.set_cons_zero, List.set_cons_succ, List.getElem_toArray, List.getElem_cons_zero, List.getElem_cons_succ]
      refine wpAnyN_one (i := 18) (by kernel_rfl) rfl (fun K hK => ?_)
      go_simp
      have F4 := F3'.alloc (.cells #[.slice bA n bc] 22)
      refine hK.out _ _ (fun _ => ?_) (fun hHeld => ?_)
      · exact ((hb4.alloc _).cell 1)
      have hHeld := hHeld (by decide)
      clear hK K
      try simp only [Act.put, List.setIfInBounds_toArray, List.set_cons_zero, List.set_cons_succ, List.getElem_toArray, List.getElem_cons_zero, List.getElem_cons_succ]
      refine wpAnyN_one (i := 19) (by kernel_rfl) rfl (fun K hK => ?_)
      refine step_append_grows (by rfl) _ _ 32 (by rfl) 22 i0 _ 1 24 Try.underlying32 hi hz0 hz1 hz2 rfl (by omega) A1 m m (S.map Bl.val) (by rfl) X.out.2.1 X.out.2.2.1 (X.out.2.2.2 _ (by exact F4)) ⟨w3.heap.size, 0, none⟩ 1 1 [.slice bA n bc] (by rfl) (by rfl) (World.news_of_block (cs := #[.slice bA n bc]) (t := 22) (fr := (0, 0)) (heap_alloc_new w3 _)) (by simp [Value.oneCell']) (by omega) (by unfold maxLen; omega) (by omega) ?_
      intro v4 w4 own4 hg4
      obtain ⟨A4, c4, rfl, -, -⟩ := own_is own4
      have G4 := ((Frm.refl No w3).alloc (.cells #[.slice bA n bc] 22)).grown (w' := w4) (by exact hg4) (fun q e => by cases e)
      have F5 := F3'.thenN G4
      have hb5 := F5.blk HR.out.2.1 (fun h => h)
      have k5 : w4.cell? ⟨g, 1, none⟩ = some (.slice A1 m c1) := hb5.cell 1
      have z5 : w4.frozen? ⟨g, 1, none⟩ = false := hb5.free 1
      have k6 : w4.cell? ⟨g, 2, none⟩ = some (.int .i64 se) := hb5.cell 2
      have z6 : w4.frozen? ⟨g, 2, none⟩ = false := hb5.free 2
      have hgl4 := hb5.lt
      refine hK.out _ _ (fun _ => ?_) (fun hHeld => ?_)
      · exact k5
      have hHeld := hHeld (by decide)
      clear hK K
      try simp only [Act.put, List.setIfInBounds_toArray, List.set_cons_zero, List.set_cons_succ, List.getElem_toArray, List.getElem_cons_zero, List.getElem_cons_succ]
      have hHeldO := hHeld
      refine wpAnyN_one (i := 20) (by kernel_rfl) rfl (fun K hK => ?_)
      go_simp
      refine hK.out _ _ (fun _ => hHeldO) (fun hHeld => ?_)
      have hHeld := hHeld (by decide)
      clear hK K hHeldO
      try simp only [Act.put, List.setIfInBounds_toArray, List.set_cons_zero, List.set_cons_succ, List.getElem_toArray, List.getElem_cons_zero, List.getElem_cons_succ]
      refine wpAnyN_take (i := 21) (v := ?rnv9r7_21) rfl (by kernel_rfl) (by kernel_rfl) (by kernel_rfl) (fun _ _ _ h => h) (by decide) (by kernel_rfl) (Or.inl ⟨by rfl, ?rny9r7_21⟩) (by assumption) ?rnr9r7_21
      case rny9r7_21 => (intro w hSw; (try dsimp only at hSw); go_simp; try with_reducible rfl)
      try simp only [Act.put, List.setIfInBounds_toArray, List.set_cons_zero, List.set_cons_succ, List.getElem_toArray, List.getElem_cons_zero, List.getElem_cons_succ]
      refine wpAnyN_one (i := 22) (by kernel_rfl) rfl (fun K hK => ?_)
      go_simp
      refine hK.out _ _ (fun h => absurd rfl h) (fun _ => ?_)
      clear hK K
      try simp only [Act.put, List.setIfInBounds_toArray, List.set_cons_zero, List.set_cons_succ, List.getElem_toArray, List.getElem_cons_zero, List.getElem_cons_succ]
      refine wpAnyN_done (by kernel_rfl) ?_ _
      go_wp2_with fail
      go_ret
      obtain ⟨q1, q2, q3⟩ := send_fin (b := ⟨bA, n, bc⟩) HR.out.2.1 F5 HR.out.1 HR.out.2.2 (by omega) own4 (by have := F3'.size; simp; omega) (by have := F3'.size; simp; omega) (hb3.frmN G4)
      exact ⟨rfl, ⟨_, q1, q2⟩, q3⟩
end Go.Proofs.Ytbhkhabkkghapaa.A
