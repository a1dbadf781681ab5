/- The document's Send. -/
import Derived.Test.YtbhkhabkkghapaaWR
import Derived.Maps.AppendAt
namespace Go.Proofs.Ytbhkhabkkghapaa.A
open Go.RowKit Go.Proofs.Ytbhkhabkkghapaa.K Go.Proofs.Ytbhkhabkkghapaa.N Go.Proofs.Ytbhkhabkkghapaa.F
set_option linter.unusedVariables false
set_option linter.unusedSimpArgs false

section
variable {P : Program} (w : World)
/-- .. and where the row stands behind it. -/
theorem run_append_rds2 (base : Nat) (t ty e : TypeId) (i : TypeInfo) (z : Value) (size bytes : Nat) (ht : P.underlying t = some (.slice e)) (hi : P.info? e = some i) (hz : i.zero = some z)
    (hsize : i.size = size) (hby : i.bytes = bytes) (hzs : z.cells.size = size) (hsz : 0 < size)
    (v : Value) (n : Nat) (xs : List Value) (hown : w.ownsRow base e size v n xs)
    (A : Option Addr) (m c : Nat) (news : List Value) (hr : Rds w size A m news) (h1 : ∀ u ∈ news, u.oneCell' = true)
    (h63 : n + m ≤ maxLen) (hbytes : (n + m) * bytes ≤ 140737488355328) (hbase : base ≤ w.heap.size) :
    ∃ v' w', (Builtin.append_ #[t, t] ty #[v, .slice A m c]).run P w = .ok v' w' ∧ w'.ownsRow base e size v' (n + m) (xs ++ news) ∧ w.grownBy w' v.ownBlock ∧ (v'.ownBlock = v.ownBlock ∨ v'.ownBlock = some w.heap.size) := by
  rcases A with _ | ad
  · have hm : m = 0 := by
      rcases Nat.eq_zero_or_pos m with h0 | h0
      · exact h0
      · obtain ⟨ad, h, _⟩ := hr.2 h0
        cases h
    subst hm
    have hn : news = [] := List.eq_nil_of_length_eq_zero (by simpa using hr.1)
    subst hn
    exact ⟨v, w, run_append_none w base t ty e i size ht hi v n xs hown c, by simpa using hown, World.grownBy.refl w _, .inl rfl⟩
  · have hcells : ∀ j u, news[j]? = some u → w.cell? (ad.add j) = some u := by
      intro j u hu
      rcases Nat.eq_zero_or_pos m with h0 | h0
      · subst h0
        have hn : news = [] := List.eq_nil_of_length_eq_zero (by simpa using hr.1)
        subst hn
        simp at hu
      · obtain ⟨ad', h, _, hc⟩ := hr.2 h0
        injection h with h
        subst h
        exact hc j u hu
    obtain ⟨v', w', hrun, h2, h3, _, h4⟩ := run_append_own_at (P := P) w base t ty e i z size bytes ht hi hz hsize hby hzs hsz v n xs hown ad m c news hr.1 hcells h1 h63 hbytes hbase
    exact ⟨v', w', hrun, h2, h3, h4⟩
theorem step_append_rds2 {ops : Array Oper} {o : Oper} {a : Act} {K : Act → World → Prop} {Q : Exit → Act → World → Prop} {E : Prop} (hgd : o.guard = none) (s x : Operand) (t : TypeId)
    (ho : o.op = .call { callee := .builtin .append, args := #[s, x], argTypes := #[t, t] })
    (base : Nat) (e : TypeId) (i : TypeInfo) (z : Value) (size bytes : Nat) (ht : P.underlying t = some (.slice e)) (hi : P.info? e = some i) (hz : i.zero = some z)
    (hsize : i.size = size) (hby : i.bytes = bytes) (hzs : z.cells.size = size) (hsz : 0 < size)
    (v : Value) (n : Nat) (xs : List Value) (hs : a.eval s = v) (hown : w.ownsRow base e size v n xs)
    (A : Option Addr) (m c : Nat) (news : List Value) (hx : a.eval x = .slice A m c) (hr : Rds w size A m news) (h1 : ∀ u ∈ news, u.oneCell' = true)
    (h63 : n + m ≤ maxLen) (hbytes : (n + m) * bytes ≤ 140737488355328) (hbase : base ≤ w.heap.size)
    (h : ∀ v' w', w'.ownsRow base e size v' (n + m) (xs ++ news) → w.grownBy w' v.ownBlock → (v'.ownBlock = v.ownBlock ∨ v'.ownBlock = some w.heap.size) → K (a.put o.dst v') w') :
    if Region.wanted o (yielded ops a.tmps) = true then Oper.wp P o a w K Q else E := by
  have hw : Region.wanted o (yielded ops a.tmps) = true := by simp [Region.wanted, hgd]
  rw [if_pos hw]
  obtain ⟨v', w', hrun, h2, h3, h4⟩ := run_append_rds2 (P := P) w base t o.type e i z size bytes ht hi hz hsize hby hzs hsz v n xs hown A m c news hr h1 h63 hbytes hbase
  unfold Oper.wp execOp
  simp only [ho, resolve, invoke, builtin, Sem.run_bind, Sem.run_pure, Result.andThen_ok, List.map_toArray, List.map_cons, List.map_nil, hs, hx, hrun]
  exact h v' w' h2 h3 h4
end
theorem rsend_fin {w W4 : World} {B g m : Nat} {k : Option Nat} {S : List Bl} {L : List (List Nat)} {se lo : Int} {u v : Value} {b : Bl} {bs : List Nat} (hb : Blk w g #[u, .int .i64 se, .int .i64 lo] 39) (F : Frm (fun x => k = some x) w W4)
    (hr : RowS w B u k S L) (hm : L.length = m) (hm2 : m < 256) (own : W4.ownsRow B 22 1 v (m + 1) (S.map Bl.val ++ [b.val])) (hk : v.ownBlock = k ∨ ∀ x, v.ownBlock = some x → w.heap.size ≤ x) (hbs : IsB W4 b bs) :
    IsR ((W4.setCell ⟨g, 0, none⟩ v).setCell ⟨g, 1, none⟩ (.int .i64 (se + 1))) B g v.ownBlock (L ++ [bs]) (se + 1) lo ∧ Anew w k v.ownBlock ∧ Frm (fun x => x = g ∨ k = some x) w ((W4.setCell ⟨g, 0, none⟩ v).setCell ⟨g, 1, none⟩ (.int .i64 (se + 1))) := by
  have hgk : ¬ k = some g := fun e => by
    obtain ⟨_, cs, hc⟩ := hr.blk e
    exact Blk.ne hc hb (by decide) rfl
  have h5 : ∀ x cs, Blk w x cs 5 → ¬ (k = some x) := fun x cs hx e => by
    obtain ⟨_, cs', hc⟩ := hr.blk e
    exact Blk.ne hx hc (by decide) rfl
  have hb4 := F.blk hb hgk
  have G : Frm (fun x => x = g) W4 ((W4.setCell ⟨g, 0, none⟩ v).setCell ⟨g, 1, none⟩ (.int .i64 (se + 1))) := ((Frm.refl (fun x => x = g) W4).self 0 v).self 1 (.int .i64 (se + 1))
  have hfin := (hb4.set 0 v).set 1 (.int .i64 (se + 1))
  have hrow : RowS W4 B v v.ownBlock (S ++ [b]) (L ++ [bs]) := by
    refine ⟨?_, rfl, (hr.2.2.frm F h5).app hbs⟩
    rw [List.length_append, List.length_singleton, hm, List.map_append]
    exact own
  refine ⟨⟨by simp; omega, v, S ++ [b], ?_, hrow.frm G (fun x hx e => ?_) (fun x cs hx e => ?_)⟩, hk, ?_⟩
  · simpa using hfin
  · obtain ⟨_, cs, hc⟩ := own_blk own hx
    subst e
    exact Blk.ne hc hb4 (by decide) rfl
  · subst e
    exact Blk.ne hx hb4 (by decide) rfl
  · exact (F.mono fun _ h => Or.inr h).then G (fun x hx => .inl (.inl hx))
set_option maxRecDepth 100000 in
set_option maxHeartbeats 4000000 in
theorem rsend_any (w : World) (B g : Nat) (k : Option Nat) (L : List (List Nat)) (se lo : Int) (A : Option Addr) (n c : Nat) (bs : List Nat) (h : IsR w B g k L se lo) (hbs : Bin w A bs) (hn : bs.length = n) (hn9 : n ≤ 9223372036854775807) (hB : B ≤ w.heap.size)
    (hs1 : -1000000000 ≤ se) (hs2 : se ≤ 1000000000) :
    Calls Try.prog 14 #[.pointer (some ⟨g, 0, none⟩), .slice A n c] w fun e w' => e = .returned (.int .i64 (sendE L n)) ∧
      (∃ k', IsR w' B g k' (if sendE L n = 0 then L ++ [bs] else L) (if sendE L n = 0 then se + 1 else se) lo ∧ Anew w k k') ∧ Frm (fun x => x = g ∨ k = some x) w w' := by
  have h9 := h
  have hL := h.1
  obtain ⟨A1, c1, S, hb, hlc, hr⟩ := h.cells
  obtain ⟨E, hE⟩ : ∃ E, sendE L n = E := ⟨_, rfl⟩
  rw [hE]
  unfold sendE at hE
  by_cases h1 : 4096 < n
  · rw [if_pos h1] at hE
    subst hE
    rw [if_neg (by decide), if_neg (by decide)]
    have h1' : (4096 : Int) < (n : Int) := by omega
    clear hb hr
    go_enter Try.func14, Try.ntmps14
    go_wp2_with fail
    go_ret
    exact ⟨rfl, ⟨k, h9, .inl rfl⟩, Frm.refl _ _⟩
  · rw [if_neg h1] at hE
    have h1' : ¬ (4096 : Int) < (n : Int) := by omega
    obtain ⟨m, hm⟩ : ∃ m, L.length = m := ⟨_, rfl⟩
    rw [hm] at hE hL hb hlc hr
    have k1 : w.cell? ⟨g, 0, none⟩ = some (.slice A1 m c1) := hb.cell 0
    by_cases h2 : 256 ≤ m
    · rw [if_pos h2] at hE
      subst hE
      rw [if_neg (by decide), if_neg (by decide)]
      have h2' : (256 : Int) ≤ (m : Int) := by omega
      clear hb hr
      go_enter Try.func14, Try.ntmps14
      go_wp2_with fail
      go_ret
      exact ⟨rfl, ⟨k, h9, .inl rfl⟩, Frm.refl _ _⟩
    · rw [if_neg h2] at hE
      subst hE
      rw [if_pos rfl, if_pos rfl]
      have h2' : ¬ (256 : Int) ≤ (m : Int) := by omega
      obtain ⟨i0, hi, hz0, hz1, hz2⟩ := info_parts info22
      obtain ⟨i5, hi5, hz50, hz51, hz52⟩ := info_parts info5
      have hgl := hb.lt
      have hrb : Rds w 1 A n (bs.map by8) := by rw [← hn]; exact hbs
      have hroww : w.ownsRow B 22 1 (.slice A1 m c1) m (S.map Bl.val) := by have h0 := hr.1; rw [hm] at h0; exact h0
      have hgk : ¬ (Value.slice A1 m c1).ownBlock = some g := fun e => by
        obtain ⟨_, cs, hc⟩ := own_blk hroww e
        exact Blk.ne hc hb (by decide) rfl
      have HR := Lib.hid (And.intro hr (And.intro hb (And.intro hm (And.intro hroww hgk))))
      have hn2 : n ≤ 4096 := by omega
      have hm2 : m < 256 := by omega
      clear hr hb hm h9 hn hroww hgk h hbs h1 h2 hL
      go_enter Try.func14, Try.ntmps14
      go_wp2_with fail
      refine wp_region_N (S := fun w' => w'.cell? ⟨g, 0, none⟩ = some (.slice A1 m c1)) 12 (by kernel_rfl) k1 (fun hHeld => ?_)
      refine wpAnyN_take (i := 0) (v := ?rnv14r6_0) rfl (by kernel_rfl) (by kernel_rfl) (by kernel_rfl) (fun _ _ _ h => h) (by decide) (by kernel_rfl) (Or.inl ⟨by rfl, ?rny14r6_0⟩) (by assumption) ?rnr14r6_0
      case rny14r6_0 => (intro w hSw; (try dsimp only at hSw); go_simp; try with_reducible rfl)
      try simp only [Act.put, List.setIfInBounds_toArray, List.set_cons_zero, List.set_cons_succ, List.getElem_toArray, List.getElem_cons_zero, List.getElem_cons_succ]
      refine wpAnyN_take (i := 1) (v := ?rnv14r6_1) rfl (by kernel_rfl) (by kernel_rfl) (by kernel_rfl) (fun _ _ _ h => h) (by decide) (by kernel_rfl) (Or.inl ⟨by rfl, ?rny14r6_1⟩) (by assumption) ?rnr14r6_1
      case rny14r6_1 => (intro w hSw; (try dsimp only at hSw); go_simp; try with_reducible rfl)
      try simp only [Act.put, List.setIfInBounds_toArray, List.set_cons_zero, List.set_cons_succ, List.getElem_toArray, List.getElem_cons_zero, List.getElem_cons_succ]
      refine wpAnyN_take (i := 2) (v := ?rnv14r6_2) rfl (by kernel_rfl) (by kernel_rfl) (by kernel_rfl) (fun _ _ _ h => h) (by decide) (by kernel_rfl) (Or.inl ⟨by rfl, ?rny14r6_2⟩) (by assumption) ?rnr14r6_2
      case rny14r6_2 => (intro w hSw; (try dsimp only at hSw); go_simp; try with_reducible rfl)
      try simp only [Act.put, List.setIfInBounds_toArray, List.set_cons_zero, List.set_cons_succ, List.getElem_toArray, List.getElem_cons_zero, List.getElem_cons_succ]
      refine wpAnyN_take (i := 3) (v := ?rnv14r6_3) rfl (by kernel_rfl) (by kernel_rfl) (by kernel_rfl) (fun _ _ _ h => h) (by decide) (by kernel_rfl) (Or.inl ⟨by rfl, ?rny14r6_3⟩) (by assumption) ?rnr14r6_3
      case rny14r6_3 => (intro w hSw; (try dsimp only at hSw); go_simp; try with_reducible rfl)
      try simp only [Act.put, List.setIfInBounds_toArray, List.set_cons_zero, List.set_cons_succ, List.getElem_toArray, List.getElem_cons_zero, List.getElem_cons_succ]
      refine wpAnyN_take (i := 4) (v := ?rnv14r6_4) rfl (by kernel_rfl) (by kernel_rfl) (by kernel_rfl) (fun _ _ _ h => h) (by decide) (by kernel_rfl) (Or.inl ⟨by rfl, ?rny14r6_4⟩) (by assumption) ?rnr14r6_4
      case rny14r6_4 => (intro w hSw; (try dsimp only at hSw); go_simp; try with_reducible rfl)
      try simp only [Act.put, List.setIfInBounds_toArray, List.set_cons_zero, List.set_cons_succ, List.getElem_toArray, List.getElem_cons_zero, List.getElem_cons_succ]
      refine wpAnyN_take (i := 5) (v := ?rnv14r6_5) rfl (by kernel_rfl) (by kernel_rfl) (by kernel_rfl) (fun _ _ _ h => h) (by decide) (by kernel_rfl) (Or.inl ⟨by rfl, ?rny14r6_5⟩) (by assumption) ?rnr14r6_5
      case rny14r6_5 => (intro w hSw; (try dsimp only at hSw); go_simp; try with_reducible rfl)
      try simp only [Act.put, List.setIfInBounds_toArray, List.set_cons_zero, List.set_cons_succ, List.getElem_toArray, List.getElem_cons_zero, List.getElem_cons_succ]
      refine wpAnyN_take (i := 6) (v := ?rnv14r6_6) rfl (by kernel_rfl) (by kernel_rfl) (by kernel_rfl) (fun _ _ _ h => h) (by decide) (by kernel_rfl) (Or.inl ⟨by rfl, ?rny14r6_6⟩) (by assumption) ?rnr14r6_6
      case rny14r6_6 => (intro w hSw; (try dsimp only at hSw); go_simp; try with_reducible rfl)
      try simp only [Act.put, List.setIfInBounds_toArray, List.set_cons_zero, List.set_cons_succ, List.getElem_toArray, List.getElem_cons_zero, List.getElem_cons_succ]
      refine wpAnyN_one (i := 7) (by kernel_rfl) rfl (fun K hK => ?_)
      refine step_append_rds _ (by rfl) _ _ 22 (by rfl) w.drew.heap.size 5 i5 _ 1 1 Try.underlying22 hi5 hz50 hz51 hz52 rfl (by omega) (.slice none 0 0) 0 [] (by rfl) (World.ownsRow_nil _ _ _ _) A n c (bs.map by8) (by rfl) (hrb.frmN (Frm.refl No w).drew) (by8_one _) (by unfold maxLen; omega) (by omega) (Nat.le_refl _) ?_
      intro v3 w3 own3 hg3
      have F3 : Frm No w w3 := ((Frm.refl No w).drew).thenN (own_grown (World.ownsRow_nil w.drew w.drew.heap.size 5 1) (Frm.refl No w.drew) (Nat.le_refl _) hg3)
      rw [Nat.zero_add, List.nil_append] at own3
      obtain ⟨A3, c3, rfl, hc3, -⟩ := own_is own3
      have hb3I : IsB w3 ⟨A3, n, c3⟩ bs := ⟨(Bys.of_own own3).2, hc3, (Bys.of_own own3).1⟩
      have hb4 := F3.blk HR.out.2.1 (fun h => h)
      have k4 : w3.cell? ⟨g, 0, none⟩ = some (.slice A1 m c1) := hb4.cell 0
      have hgl3 := hb4.lt
      refine hK.out _ _ (fun _ => ?_) (fun hHeld => ?_)
      · exact k4
      have hHeld := hHeld (by decide)
      clear hK K
      try simp only [Act.put, List.setIfInBounds_toArray, List.set_cons_zero, List.set_cons_succ, List.getElem_toArray, List.getElem_cons_zero, List.getElem_cons_succ]
      refine wpAnyN_one (i := 8) (by kernel_rfl) rfl (fun K hK => ?_)
      go_simp
      have F4 := F3.alloc (.cells #[.slice A3 n c3] 22)
      have own34 := own_frm HR.out.2.2.2.1 F4 (fun _ _ _ h => h)
      refine hK.out _ _ (fun _ => ?_) (fun hHeld => ?_)
      · exact ((hb4.alloc _).cell 0)
      have hHeld := hHeld (by decide)
      clear hK K
      try simp only [Act.put, List.setIfInBounds_toArray, List.set_cons_zero, List.set_cons_succ, List.getElem_toArray, List.getElem_cons_zero, List.getElem_cons_succ]
      refine wpAnyN_one (i := 9) (by kernel_rfl) rfl (fun K hK => ?_)
      refine step_append_rds2 _ (by rfl) _ _ 32 (by rfl) B 22 i0 _ 1 24 Try.underlying32 hi hz0 hz1 hz2 rfl (by omega) (.slice A1 m c1) m (S.map Bl.val) (by rfl) own34 (some ⟨w3.heap.size, 0, none⟩) 1 1 [.slice A3 n c3] (by rfl) (new_rds w3 (.slice A3 n c3) 22) (by simp [Value.oneCell']) (by unfold maxLen; omega) (by omega) (Nat.le_trans hB F4.size) ?_
      intro v4 w4 own4 hg4 hk4
      obtain ⟨A4, c4, rfl, -, -⟩ := own_is own4
      have F5 : Frm (fun x => (Value.slice A1 m c1).ownBlock = some x) w w4 := (F4.mono fun _ h => h.elim).grown hg4 (fun q e => .inl e)
      have hb5 := F5.blk HR.out.2.1 HR.out.2.2.2.2
      have hb5I := hb3I.frm (((Frm.refl (fun x => (Value.slice A1 m c1).ownBlock = some x) w3).alloc (.cells #[.slice A3 n c3] 22)).grown hg4 (fun q e => .inl e)) (fun x cs hx e => by obtain ⟨_, cs', hc⟩ := own_blk (own_frm HR.out.2.2.2.1 F3 (fun _ _ _ h => h)) e; exact Blk.ne hx hc (by decide) rfl)
      have k5 : w4.cell? ⟨g, 0, none⟩ = some (.slice A1 m c1) := hb5.cell 0
      have z5 : w4.frozen? ⟨g, 0, none⟩ = false := hb5.free 0
      have k6 : w4.cell? ⟨g, 1, none⟩ = some (.int .i64 se) := hb5.cell 1
      have z6 : w4.frozen? ⟨g, 1, none⟩ = false := hb5.free 1
      have hgl4 := hb5.lt
      refine hK.out _ _ (fun _ => ?_) (fun hHeld => ?_)
      · exact k5
      have hHeld := hHeld (by decide)
      clear hK K
      try simp only [Act.put, List.setIfInBounds_toArray, List.set_cons_zero, List.set_cons_succ, List.getElem_toArray, List.getElem_cons_zero, List.getElem_cons_succ]
      have hHeldO := hHeld
      refine wpAnyN_one (i := 10) (by kernel_rfl) rfl (fun K hK => ?_)
      go_simp
      refine hK.out _ _ (fun _ => hHeldO) (fun hHeld => ?_)
      have hHeld := hHeld (by decide)
      clear hK K hHeldO
      try simp only [Act.put, List.setIfInBounds_toArray, List.set_cons_zero, List.set_cons_succ, List.getElem_toArray, List.getElem_cons_zero, List.getElem_cons_succ]
      refine wpAnyN_take (i := 11) (v := ?rnv14r6_11) rfl (by kernel_rfl) (by kernel_rfl) (by kernel_rfl) (fun _ _ _ h => h) (by decide) (by kernel_rfl) (Or.inl ⟨by rfl, ?rny14r6_11⟩) (by assumption) ?rnr14r6_11
      case rny14r6_11 => (intro w hSw; (try dsimp only at hSw); go_simp; try with_reducible rfl)
      try simp only [Act.put, List.setIfInBounds_toArray, List.set_cons_zero, List.set_cons_succ, List.getElem_toArray, List.getElem_cons_zero, List.getElem_cons_succ]
      refine wpAnyN_one (i := 12) (by kernel_rfl) rfl (fun K hK => ?_)
      go_simp
      refine hK.out _ _ (fun h => absurd rfl h) (fun _ => ?_)
      clear hK K
      try simp only [Act.put, List.setIfInBounds_toArray, List.set_cons_zero, List.set_cons_succ, List.getElem_toArray, List.getElem_cons_zero, List.getElem_cons_succ]
      refine wpAnyN_done (by kernel_rfl) ?_ _
      go_wp2_with fail
      go_ret
      have hkk := HR.out.1.2.1
      obtain ⟨q1, q2, q3⟩ := rsend_fin (b := ⟨A3, n, c3⟩) HR.out.2.1 (F5.mono fun x hx => hkk ▸ hx) HR.out.1 HR.out.2.2.1 hm2 own4 (by
        rcases hk4 with e | e
        · exact .inl (e.trans hkk)
        · refine .inr fun x hx => ?_
          rw [e] at hx
          injection hx with hx
          rw [← hx]
          exact F4.size) hb5I
      exact ⟨rfl, ⟨_, q1, q2⟩, q3⟩
end Go.Proofs.Ytbhkhabkkghapaa.A
