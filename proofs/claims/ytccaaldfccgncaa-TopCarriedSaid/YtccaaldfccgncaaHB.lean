/- Put: the walk. -/
import Derived.Test.YtccaaldfccgncaaH
import Derived.WalkMore
import Derived.ScopeJumps
namespace Go.Proofs.Ytccaaldfccgncaa.A
open Go.RowKit Go.Proofs.Ytccaaldfccgncaa.K
set_option linter.unusedVariables false
set_option linter.unusedSimpArgs false

/-- A scope with one label: what stands behind the label is walked once. -/
theorem wp_scope_pass {P : Program} {a : Act} {w : World} {Q : Exit → Act → World → Prop} {c X : Code} (l : Nat) (J : Act → World → Prop) (μ : Act → World → Nat) (hf : findLabel c l = some (Code.skip.seq X))
    (pass : ∀ a w, J a w → X.wp P (Exit.jump l (fun a' w' => J a' w' ∧ μ a' w' < μ a w) Q) a w)
    (first : (∀ a w, J a w → X.wp P (Exit.jump l J Q) a w) → c.wp P (Exit.jump l J Q) a w) : (Code.scope c).wp P Q a w := by
  refine wp_scope_jumps l J μ hf (first fun a w hJ => ?_) (fun a w hJ => ?_)
  · refine wp_mono (pass a w hJ) fun e a' w' h => ?_
    cases e with
    | goto l' => exact ⟨h.1, h.2.1⟩
    | _ => exact h
  · exact wp_seq (wp_skip (pass a w hJ))
theorem one_rds (w : World) (bv : Value) (t : TypeId) : Rds (w.alloc (.cells #[bv] t)) 1 (some ⟨w.heap.size, 0, none⟩) 1 [bv] := by
  have hb : Blk (w.alloc (.cells #[bv] t)) w.heap.size #[bv] t := Blk.new w #[bv] t
  refine ⟨rfl, fun _ => ⟨_, rfl, hb.lt, fun j u hu => ?_⟩⟩
  have ea : (⟨w.heap.size, 0, none⟩ : Addr).add j = ⟨w.heap.size, j, none⟩ := by unfold Addr.add; by_cases h0 : j = 0 <;> simp [h0]
  rw [ea, hb.cell, List.getElem?_toArray]
  exact hu
/-- What lies there ahead of field i. -/
def PI (w wr : World) (g fi : Nat) (O : List (List Nat)) (s : GS) (i : Nat) (vo : Value) : Prop := RowF wr w.heap.size vo (gPut fi O s i).o ∧ IsG wr g (gPut fi O s i).h (gPut fi O s i).lost ∧ Frm (fun x => x = g) w wr
theorem PI.told {w wr w2 w3 : World} {g fi i n6 c6 : Nat} {O : List (List Nat)} {s : GS} {vo v3 : Value} {F0 : List Fl} {A6 : Option Addr} {txt : List Nat} {h' : Option (List Nat)} {l' : Int} (hgb : ∃ cs, Blk w g cs 72) (hB : IsG wr g (gPut fi O s i).h (gPut fi O s i).lost)
    (own2 : (w2.alloc (.cells #[.slice A6 n6 c6] 24)).ownsRow w.heap.size 24 1 vo F0.length (F0.map Fl.val))
    (own3 : w3.ownsRow w.heap.size 24 1 v3 (F0.length + 1) (F0.map Fl.val ++ [.slice A6 n6 c6])) (hg3 : (w2.alloc (.cells #[.slice A6 n6 c6] 24)).grownBy w3 vo.ownBlock)
    (R2 : RowB w2 0 (.slice A6 txt.length c6) txt) (G2 : IsG w2 g h' l') (F2 : Frm (fun x => x = g) wr w2) (F02 : Frm (fun x => x = g) w w2) (hF0 : F0.map Fl.bs = (gPut fi O s i).o) (rr0 : ∀ f ∈ F0, RowB wr 0 f.val f.bs) (hn6 : txt.length = n6)
    (hg5 : ∀ x cs, Blk wr x cs 5 → ¬ (x = g)) (e1 : (gPut fi O s (i + 1)).h = h') (e2 : (gPut fi O s (i + 1)).lost = l') (e3 : (gPut fi O s (i + 1)).o = if true = true then (gPut fi O s i).o ++ [txt] else (gPut fi O s i).o) : PI w w3 g fi O s (i + 1) v3 := by
  have FA : Frm (fun x => vo.ownBlock = some x) w2 w3 := ((Frm.refl (fun x => vo.ownBlock = some x) w2).alloc _).grown hg3 (fun k e => .inl e)
  have nb : ∀ x cs t, Blk w2 x cs t → t ≠ 24 → ¬ (vo.ownBlock = some x) := fun x cs t hx ht e => by
    obtain ⟨_, cs', hb⟩ := own_blk own2 e
    have hx' : Blk (w2.alloc (.cells #[.slice A6 n6 c6] 24)) x cs t := hx.alloc _
    exact Blk.ne hx' hb ht rfl
  have n5 : ∀ x cs, Blk w2 x cs 5 → ¬ (vo.ownBlock = some x) := fun x cs hx => nb x cs 5 hx (by decide)
  obtain ⟨cg, hcg⟩ := G2.blk
  refine ⟨?_, ?_, ?_⟩
  · rw [e3, if_pos rfl]
    refine ⟨F0 ++ [⟨A6, c6, txt⟩], by rw [List.map_append, hF0]; rfl, ?_, fun y hy => ?_⟩
    · rw [List.length_append, List.map_append]
      subst hn6
      exact own3
    · rcases List.mem_append.1 hy with hy | hy
      · exact own_frm (own_frm (rr0 y hy) F2 hg5) FA n5
      · rcases List.mem_singleton.1 hy with rfl
        exact own_frm R2 FA n5
  · rw [e1, e2]
    exact G2.frm FA (nb _ _ _ hcg (by decide)) n5
  · refine F02.then FA (fun x hx => .inr ?_)
    exact (own_blk own2 hx).1
set_option maxRecDepth 100000 in
set_option maxHeartbeats 8000000 in
theorem put_is (w : World) (g : Nat) (h : Option (List Nat)) (lost : Int) (fi : Nat) (A : Option Addr) (n c : Nat) (O : List (List Nat)) (gap : Bool) (H : IsG w g h lost) (l0 : 0 ≤ lost) (l1 : lost ≤ 10000000)
    (hF : RowF w 0 (.slice A n c) O) (hn : O.length = n) (n1 : 1 ≤ n) (n24 : n ≤ 24) (hne : ∀ b ∈ O, 1 ≤ b.length) (hfi : fi ≤ 3)
    (hc : ∀ i, i < n → ((fH (gPut fi O (gStart h lost gap) i).h (O.getD i []) (bgOf fi i)).getD []).length ≤ 1000) :
    Calls Try.prog 14 #[.pointer (some ⟨g, 0, none⟩), .int .i64 fi, .slice A n c, .bool gap] w fun e w' => ∃ v, e = .returned (.tuple #[v, .int .i64 0]) ∧ RowF w' w.heap.size v (gPut fi O (gStart h lost gap) n).o ∧ IsG w' g (gPut fi O (gStart h lost gap) n).h (gPut fi O (gStart h lost gap) n).lost ∧ Frm (fun x => x = g) w w' := by
  have hem := none_empty w A n c O 0 hF hn (by omega) hne
  have f0 : ¬ (fi : Int) < 0 := by omega
  have f3 : ¬ (3 : Int) < (fi : Int) := by omega
  have nz : ((n : Int) == 0) = false := by rw [beq_eq_false_iff_ne]; omega
  have n24' : ¬ (24 : Int) < (n : Int) := by omega
  obtain ⟨m, hm⟩ : ∃ m, n - 1 = m := ⟨_, rfl⟩
  have hm1 : n = m + 1 := by omega
  have pwm : IntKind.i64.wrap ((n : Int) - 1) = (m : Int) := by rw [IntWalk.i64_in _ ⟨by omega, by omega⟩]; omega
  have pwn : (n : Int) - 1 = (m : Int) := by omega
  have m0 : (0 : Int) ≤ (m : Int) := by omega
  have m23 : (m : Int) ≤ 23 := by omega
  have hlose := lose_is w g h lost H l0 (by omega)
  obtain ⟨j0, hi0, hz0, hz1, hz2⟩ := info_parts info24
  have hgb := H.blk
  have x24 : ∀ x cs, Blk w x cs 24 → ¬ (x = g) := fun x cs hx e => by subst e; obtain ⟨cs', hh⟩ := hgb; exact Blk.ne hx hh (by decide) rfl
  have x5 : ∀ x cs, Blk w x cs 5 → ¬ (x = g) := fun x cs hx e => by subst e; obtain ⟨cs', hh⟩ := hgb; exact Blk.ne hx hh (by decide) rfl
  have hq2 : ∃ m2 : Int, bits .and .i64 (fi : Int) 2 = m2 ∧ (m2 == 0) = decide (fi / 2 % 2 = 0) := by
    match fi, hfi with
    | 0, _ => exact ⟨_, rfl, by decide⟩
    | 1, _ => exact ⟨_, rfl, by decide⟩
    | 2, _ => exact ⟨_, rfl, by decide⟩
    | 3, _ => exact ⟨_, rfl, by decide⟩
  have hq1 : ∃ m1 : Int, bits .and .i64 (fi : Int) 1 = m1 ∧ (m1 == 0) = decide (fi % 2 = 0) := by
    match fi, hfi with
    | 0, _ => exact ⟨_, rfl, by decide⟩
    | 1, _ => exact ⟨_, rfl, by decide⟩
    | 2, _ => exact ⟨_, rfl, by decide⟩
    | 3, _ => exact ⟨_, rfl, by decide⟩
  obtain ⟨m2, ha2, hb2⟩ := hq2
  obtain ⟨m1, ha1, hb1⟩ := hq1
  obtain ⟨t2, ht2⟩ : ∃ t2, decide (fi / 2 % 2 = 0) = t2 := ⟨_, rfl⟩
  obtain ⟨t1, ht1⟩ : ∃ t1, decide (fi % 2 = 0) = t1 := ⟨_, rfl⟩
  rw [ht2] at hb2
  rw [ht1] at hb1
  have HT := Lib.hid (And.intro ht2 ht1)
  clear ht1 ht2
  have hH := H
  obtain ⟨v, hb, hr⟩ := H
  have y0 : w.cell? ⟨g, 0, none⟩ = some (.bool true) := hb.cell 0
  clear hb hr
  obtain ⟨s, hs⟩ : ∃ s, gStart h lost gap = s := ⟨_, rfl⟩
  have hs0 : s.o = [] := by rw [← hs]; rfl
  have hs1 : 0 ≤ s.lost ∧ s.lost ≤ 10000001 := by
    have := someI_01 h
    rw [← hs]
    show 0 ≤ lost + (if gap = true then someI h else 0) ∧ lost + (if gap = true then someI h else 0) ≤ 10000001
    split <;> omega
  rw [hs] at hc
  rw [hs]
  have HC := Lib.hid hc
  have HS := Lib.hid (And.intro hgb (And.intro hF (And.intro x24 (And.intro x5 (And.intro (And.intro hn hne) (And.intro hs1 hs0))))))
  have HG := Lib.hid (And.intro hH hs)
  have HM := Lib.hid hm
  clear hc hgb hF x24 x5 hn hne hs1 hs0 hH hs hm hfi
  have HJ := Lib.hid hm1
  clear hm1
  go_enter Try.func14, Try.ntmps14
  go_wp2_with fail
  refine wp_scope_pass 0 (fun a' wr => ∃ (i : Nat) (vo : Value) (u4 u5 u6 u7 u8 u9 u10 u14 u15 u16 u17 u18 u19 u20 u21 u22 u23 u24 u25 u26 u27 u28 u29 u30 u31 u32 u33 u34 u35 u36 u37 u38 u39 u40 u41 u42 u43 u44 u45 u46 u47 u48 u49 u50 u51 u52 u53 u54 u55 u56 u57 u58 u59 u60 u61 u62 u63 u64 u65 u66 u67 u68 u69 u70 u71 u72 u73 u74 u75 u76 u77 u78 u79 u80 u81 u82 u83 u84 u85 u86 u87 u88 : Value), a' = { tmps := #[.pointer (some ⟨g, 0, none⟩), .int .i64 (fi : Int), .slice A n c, .bool gap, u4, u5, u6, u7, u8, u9, u10, vo, .int .i64 (i : Int), .int .i64 (m : Int), u14, u15, u16, u17, u18, u19, u20, u21, u22, u23, u24, u25, u26, u27, u28, u29, u30, u31, u32, u33, u34, u35, u36, u37, u38, u39, u40, u41, u42, u43, u44, u45, u46, u47, u48, u49, u50, u51, u52, u53, u54, u55, u56, u57, u58, u59, u60, u61, u62, u63, u64, u65, u66, u67, u68, u69, u70, u71, u72, u73, u74, u75, u76, u77, u78, u79, u80, u81, u82, u83, u84, u85, u86, u87, u88], defers := [] } ∧ i < n ∧ PI w wr g fi O s i vo) (fun a' _ => n - (intOf (a'.tmps.getD 12 undef)).toNat) rfl ?_ ?_
  · rintro a' wr ⟨i, vo, u4, u5, u6, u7, u8, u9, u10, u14, u15, u16, u17, u18, u19, u20, u21, u22, u23, u24, u25, u26, u27, u28, u29, u30, u31, u32, u33, u34, u35, u36, u37, u38, u39, u40, u41, u42, u43, u44, u45, u46, u47, u48, u49, u50, u51, u52, u53, u54, u55, u56, u57, u58, u59, u60, u61, u62, u63, u64, u65, u66, u67, u68, u69, u70, u71, u72, u73, u74, u75, u76, u77, u78, u79, u80, u81, u82, u83, u84, u85, u86, u87, u88, rfl, hin, HPp⟩
    have HP := Lib.hid HPp
    have hgr := HPp.2.1.blk
    have HK := Lib.hid (show (∀ x cs, Blk wr x cs 24 → ¬ (x = g)) ∧ (∀ x cs, Blk wr x cs 5 → ¬ (x = g)) from ⟨fun x cs hx e => by subst e; obtain ⟨cs', hh⟩ := hgr; exact Blk.ne hx hh (by decide) rfl, fun x cs hx e => by subst e; obtain ⟨cs', hh⟩ := hgr; exact Blk.ne hx hh (by decide) rfl⟩)
    clear HPp hgr
    obtain ⟨ad, A2, c2, rfl, k0, RB, -, -⟩ := (HS.out.2.1.frm HP.out.2.2 HS.out.2.2.1 HS.out.2.2.2.1).at_ (i := i) (by rw [HS.out.2.2.2.2.1.1]; exact hin)
    obtain ⟨b, hb⟩ : ∃ b, O.getD i [] = b := ⟨_, rfl⟩
    obtain ⟨l, hl⟩ : ∃ l, b.length = l := ⟨_, rfl⟩
    rw [hb, hl] at k0
    rw [hb] at RB
    have hb1' : 1 ≤ l := by rw [← hl, ← hb]; exact HS.out.2.2.2.2.1.2 _ (by rw [List.getD_eq_getElem?_getD, List.getElem?_eq_getElem (by rw [HS.out.2.2.2.2.1.1]; exact hin)]; exact List.getElem_mem _)
    have hlen := HC.out i hin
    have hlo := gPut_lost fi O s i
    have hst : gPut fi O s (i + 1) = gStep (gPut fi O s i) (O.getD i []) (bgOf fi i) (enOf fi (O.length - 1) i) := rfl
    rw [hb] at hlen hst
    rw [HS.out.2.2.2.2.1.1, HM.out] at hst
    obtain ⟨A0, c0, e0, hcl0, hbt⟩ := RB.outn hl
    injection e0 with e1 e2 e3
    subst e1
    clear e2 e3 hcl0 RB
    obtain ⟨bg, hbg⟩ : ∃ bg, bgOf fi i = bg := ⟨_, rfl⟩
    obtain ⟨en, hen⟩ : ∃ en, enOf fi m i = en := ⟨_, rfl⟩
    rw [hbg] at hlen hst
    rw [hen] at hst
    have hs5 := HS.out.2.2.2.2.2.1
    have i24 : (i : Int) ≤ 23 := by omega
    have i00 : (0 : Int) ≤ (i : Int) := Int.natCast_nonneg _
    have hin' : (i : Int) < (n : Int) := by omega
    have hfd := field_is wr g (gPut fi O s i).h (gPut fi O s i).lost A2 l c2 b bg en HP.out.2.1 (by omega) (by omega) hbt hl hb1' hlen
    obtain ⟨t, ht⟩ : ∃ t, (en && (fH (gPut fi O s i).h b bg).isSome) = t := ⟨_, rfl⟩
    obtain ⟨txt, htx⟩ : ∃ txt, (fH (gPut fi O s i).h b bg).getD [] = txt := ⟨_, rfl⟩
    have he1 : (gPut fi O s (i + 1)).h = if en = true then none else fH (gPut fi O s i).h b bg := by rw [hst]; rfl
    have he2 : (gPut fi O s (i + 1)).lost = fL (gPut fi O s i).h (gPut fi O s i).lost bg en := by rw [hst]; rfl
    have he3 : (gPut fi O s (i + 1)).o = if t = true then (gPut fi O s i).o ++ [txt] else (gPut fi O s i).o := by rw [hst, ← ht, ← htx]; rfl
    rw [ht, htx, ← he1, ← he2] at hfd
    have HE := Lib.hid he3
    clear he1 he2 he3 hst hlen hlo ht htx hb hl hbt hs5 hb1'
    by_cases hi0' : 0 < i
    · have i0 : (0 : Int) < (i : Int) := by omega
      have hbt : bg = true := by rw [← hbg]; exact decide_eq_true (.inl hi0')
      subst hbt
      clear hbg hi0'
      by_cases him : i < m
      · have im : (i : Int) < (m : Int) := by omega
        have het : en = true := by rw [← hen]; exact decide_eq_true (.inl him)
        subst het
        have HIM := Lib.hid him
        clear hen him
        go_wp2_with fail
        refine hfd.mono ?_
        rintro e w2 ⟨v2, rfl, R2, G2, F2⟩
        have F02 := HP.out.2.2.trans F2
        cases t with
        | false =>
          have H9 := Lib.hid (show PI w w2 g fi O s (i + 1) vo from ⟨by rw [HE.out, if_neg (by decide)]; exact HP.out.1.frm F2 HK.out.1 HK.out.2, G2, F02⟩)
          clear R2 G2 F2 F02 hfd
          go_wp2_with fail
          try go_step3
          exact ⟨rfl, ⟨i + 1, _, _, _, _, _, _, _, _, _, _, _, _, _, _, _, _, _, _, _, _, _, _, _, _, _, _, _, _, _, _, _, _, _, _, _, _, _, _, _, _, _, _, _, _, _, _, _, _, _, _, _, _, _, _, _, _, _, _, _, _, _, _, _, _, _, _, _, _, _, _, _, _, _, _, _, _, _, _, _, _, _, _, _, rfl, by have := HIM.out; have := HJ.out; omega, H9.out⟩, by have := HIM.out; have := HJ.out; simp [intOf]; omega⟩
        | true =>
          have R2' := R2 rfl
          obtain ⟨F0, hF0, own0, rr0⟩ := HP.out.1
          have own1 := own_frm own0 F2 HK.out.1
          obtain ⟨A6, c6, rfl, hc6, -⟩ := R2'.out
          obtain ⟨n6, hn6⟩ : ∃ n6, txt.length = n6 := ⟨_, rfl⟩
          rw [hn6]
          have hb2 := World.ownsRow.alloc own1 (.cells #[.slice A6 n6 c6] 24)
          have F3 := F02.alloc (.cells #[.slice A6 n6 c6] 24)
          have hrd := one_rds w2 (.slice A6 n6 c6) 24
          have hol := gPut_olen fi O s i
          have hk9 : F0.length ≤ 24 := by
            have : F0.length = (gPut fi O s i).o.length := by rw [← hF0, List.length_map]
            rw [HS.out.2.2.2.2.2.2, List.length_nil] at hol
            omega
          have hsz : w.heap.size ≤ (w2.alloc (.cells #[.slice A6 n6 c6] 24)).heap.size := F3.size
          have H2 := Lib.hid (And.intro R2' (And.intro G2 (And.intro F2 (And.intro hF0 (And.intro rr0 (And.intro hn6 F02))))))
          clear R2 R2' G2 F2 hF0 rr0 hn6 hol own0 own1 hfd F02 F3
          go_wp2_with (at_builtin; go_must (refine wpList_append_rds _ rfl _ _ 22 rfl w.heap.size 24 j0 _ 1 24 Try.underlying22 hi0 hz0 hz1 hz2 rfl (by omega) vo F0.length (F0.map Fl.val) rfl hb2 (some ⟨w2.heap.size, 0, none⟩) 1 1 [.slice A6 n6 c6] rfl hrd (by simp [Value.oneCell']) (by unfold maxLen; omega) (by omega) hsz ?_; intro v3 w3 own3 hg3))
          have H9 := Lib.hid (PI.told HS.out.1 HP.out.2.1 hb2 own3 hg3 H2.out.1 H2.out.2.1 H2.out.2.2.1 H2.out.2.2.2.2.2.2 H2.out.2.2.2.1 H2.out.2.2.2.2.1 H2.out.2.2.2.2.2.1 HK.out.2 rfl rfl HE.out)
          clear own3 hg3 hb2 hrd hk9 hsz
          go_wp2_with fail
          try go_step3
          exact ⟨rfl, ⟨i + 1, _, _, _, _, _, _, _, _, _, _, _, _, _, _, _, _, _, _, _, _, _, _, _, _, _, _, _, _, _, _, _, _, _, _, _, _, _, _, _, _, _, _, _, _, _, _, _, _, _, _, _, _, _, _, _, _, _, _, _, _, _, _, _, _, _, _, _, _, _, _, _, _, _, _, _, _, _, _, _, _, _, _, _, rfl, by have := HIM.out; have := HJ.out; omega, H9.out⟩, by have := HIM.out; have := HJ.out; simp [intOf]; omega⟩
      · have im : ¬ (i : Int) < (m : Int) := by omega
        have het : en = t1 := by rw [← hen, ← HT.out.2]; unfold enOf; exact Bool.eq_iff_iff.2 (by rw [decide_eq_true_iff, decide_eq_true_iff]; omega)
        subst het
        have HIM := Lib.hid him
        clear hen him
        go_wp2_with fail
        refine hfd.mono ?_
        rintro e w2 ⟨v2, rfl, R2, G2, F2⟩
        have F02 := HP.out.2.2.trans F2
        cases t with
        | false =>
          have H9 := Lib.hid (show PI w w2 g fi O s (i + 1) vo from ⟨by rw [HE.out, if_neg (by decide)]; exact HP.out.1.frm F2 HK.out.1 HK.out.2, G2, F02⟩)
          clear R2 G2 F2 F02 hfd
          go_wp2_with fail
          try simp only [Exit.jump]
          go_ret2
          have hin1 : i + 1 = n := by have := HIM.out; have := HJ.out; omega
          have H10 := H9.out
          rw [hin1] at H10
          exact ⟨_, rfl, H10.1, H10.2.1, H10.2.2⟩
        | true =>
          have R2' := R2 rfl
          obtain ⟨F0, hF0, own0, rr0⟩ := HP.out.1
          have own1 := own_frm own0 F2 HK.out.1
          obtain ⟨A6, c6, rfl, hc6, -⟩ := R2'.out
          obtain ⟨n6, hn6⟩ : ∃ n6, txt.length = n6 := ⟨_, rfl⟩
          rw [hn6]
          have hb2 := World.ownsRow.alloc own1 (.cells #[.slice A6 n6 c6] 24)
          have F3 := F02.alloc (.cells #[.slice A6 n6 c6] 24)
          have hrd := one_rds w2 (.slice A6 n6 c6) 24
          have hol := gPut_olen fi O s i
          have hk9 : F0.length ≤ 24 := by
            have : F0.length = (gPut fi O s i).o.length := by rw [← hF0, List.length_map]
            rw [HS.out.2.2.2.2.2.2, List.length_nil] at hol
            omega
          have hsz : w.heap.size ≤ (w2.alloc (.cells #[.slice A6 n6 c6] 24)).heap.size := F3.size
          have H2 := Lib.hid (And.intro R2' (And.intro G2 (And.intro F2 (And.intro hF0 (And.intro rr0 (And.intro hn6 F02))))))
          clear R2 R2' G2 F2 hF0 rr0 hn6 hol own0 own1 hfd F02 F3
          go_wp2_with (at_builtin; go_must (refine wpList_append_rds _ rfl _ _ 22 rfl w.heap.size 24 j0 _ 1 24 Try.underlying22 hi0 hz0 hz1 hz2 rfl (by omega) vo F0.length (F0.map Fl.val) rfl hb2 (some ⟨w2.heap.size, 0, none⟩) 1 1 [.slice A6 n6 c6] rfl hrd (by simp [Value.oneCell']) (by unfold maxLen; omega) (by omega) hsz ?_; intro v3 w3 own3 hg3))
          have H9 := Lib.hid (PI.told HS.out.1 HP.out.2.1 hb2 own3 hg3 H2.out.1 H2.out.2.1 H2.out.2.2.1 H2.out.2.2.2.2.2.2 H2.out.2.2.2.1 H2.out.2.2.2.2.1 H2.out.2.2.2.2.2.1 HK.out.2 rfl rfl HE.out)
          clear own3 hg3 hb2 hrd hk9 hsz
          go_wp2_with fail
          try simp only [Exit.jump]
          go_ret2
          have hin1 : i + 1 = n := by have := HIM.out; have := HJ.out; omega
          have H10 := H9.out
          rw [hin1] at H10
          exact ⟨_, rfl, H10.1, H10.2.1, H10.2.2⟩
    · have i0 : ¬ (0 : Int) < (i : Int) := by omega
      have hbt : bg = t2 := by rw [← hbg, ← HT.out.1]; unfold bgOf; exact Bool.eq_iff_iff.2 (by rw [decide_eq_true_iff, decide_eq_true_iff]; omega)
      subst hbt
      clear hbg hi0'
      by_cases him : i < m
      · have im : (i : Int) < (m : Int) := by omega
        have het : en = true := by rw [← hen]; exact decide_eq_true (.inl him)
        subst het
        have HIM := Lib.hid him
        clear hen him
        go_wp2_with fail
        refine hfd.mono ?_
        rintro e w2 ⟨v2, rfl, R2, G2, F2⟩
        have F02 := HP.out.2.2.trans F2
        cases t with
        | false =>
          have H9 := Lib.hid (show PI w w2 g fi O s (i + 1) vo from ⟨by rw [HE.out, if_neg (by decide)]; exact HP.out.1.frm F2 HK.out.1 HK.out.2, G2, F02⟩)
          clear R2 G2 F2 F02 hfd
          go_wp2_with fail
          try go_step3
          obtain rfl : i = 0 := by omega
          exact ⟨rfl, ⟨0 + 1, _, _, _, _, _, _, _, _, _, _, _, _, _, _, _, _, _, _, _, _, _, _, _, _, _, _, _, _, _, _, _, _, _, _, _, _, _, _, _, _, _, _, _, _, _, _, _, _, _, _, _, _, _, _, _, _, _, _, _, _, _, _, _, _, _, _, _, _, _, _, _, _, _, _, _, _, _, _, _, _, _, _, _, rfl, by have := HIM.out; have := HJ.out; omega, H9.out⟩, by have := HIM.out; have := HJ.out; simp [intOf]; omega⟩
        | true =>
          have R2' := R2 rfl
          obtain ⟨F0, hF0, own0, rr0⟩ := HP.out.1
          have own1 := own_frm own0 F2 HK.out.1
          obtain ⟨A6, c6, rfl, hc6, -⟩ := R2'.out
          obtain ⟨n6, hn6⟩ : ∃ n6, txt.length = n6 := ⟨_, rfl⟩
          rw [hn6]
          have hb2 := World.ownsRow.alloc own1 (.cells #[.slice A6 n6 c6] 24)
          have F3 := F02.alloc (.cells #[.slice A6 n6 c6] 24)
          have hrd := one_rds w2 (.slice A6 n6 c6) 24
          have hol := gPut_olen fi O s i
          have hk9 : F0.length ≤ 24 := by
            have : F0.length = (gPut fi O s i).o.length := by rw [← hF0, List.length_map]
            rw [HS.out.2.2.2.2.2.2, List.length_nil] at hol
            omega
          have hsz : w.heap.size ≤ (w2.alloc (.cells #[.slice A6 n6 c6] 24)).heap.size := F3.size
          have H2 := Lib.hid (And.intro R2' (And.intro G2 (And.intro F2 (And.intro hF0 (And.intro rr0 (And.intro hn6 F02))))))
          clear R2 R2' G2 F2 hF0 rr0 hn6 hol own0 own1 hfd F02 F3
          go_wp2_with (at_builtin; go_must (refine wpList_append_rds _ rfl _ _ 22 rfl w.heap.size 24 j0 _ 1 24 Try.underlying22 hi0 hz0 hz1 hz2 rfl (by omega) vo F0.length (F0.map Fl.val) rfl hb2 (some ⟨w2.heap.size, 0, none⟩) 1 1 [.slice A6 n6 c6] rfl hrd (by simp [Value.oneCell']) (by unfold maxLen; omega) (by omega) hsz ?_; intro v3 w3 own3 hg3))
          have H9 := Lib.hid (PI.told HS.out.1 HP.out.2.1 hb2 own3 hg3 H2.out.1 H2.out.2.1 H2.out.2.2.1 H2.out.2.2.2.2.2.2 H2.out.2.2.2.1 H2.out.2.2.2.2.1 H2.out.2.2.2.2.2.1 HK.out.2 rfl rfl HE.out)
          clear own3 hg3 hb2 hrd hk9 hsz
          go_wp2_with fail
          try go_step3
          obtain rfl : i = 0 := by omega
          exact ⟨rfl, ⟨0 + 1, _, _, _, _, _, _, _, _, _, _, _, _, _, _, _, _, _, _, _, _, _, _, _, _, _, _, _, _, _, _, _, _, _, _, _, _, _, _, _, _, _, _, _, _, _, _, _, _, _, _, _, _, _, _, _, _, _, _, _, _, _, _, _, _, _, _, _, _, _, _, _, _, _, _, _, _, _, _, _, _, _, _, _, rfl, by have := HIM.out; have := HJ.out; omega, H9.out⟩, by have := HIM.out; have := HJ.out; simp [intOf]; omega⟩
      · have im : ¬ (i : Int) < (m : Int) := by omega
        have het : en = t1 := by rw [← hen, ← HT.out.2]; unfold enOf; exact Bool.eq_iff_iff.2 (by rw [decide_eq_true_iff, decide_eq_true_iff]; omega)
        subst het
        have HIM := Lib.hid him
        clear hen him
        go_wp2_with fail
        refine hfd.mono ?_
        rintro e w2 ⟨v2, rfl, R2, G2, F2⟩
        have F02 := HP.out.2.2.trans F2
        cases t with
        | false =>
          have H9 := Lib.hid (show PI w w2 g fi O s (i + 1) vo from ⟨by rw [HE.out, if_neg (by decide)]; exact HP.out.1.frm F2 HK.out.1 HK.out.2, G2, F02⟩)
          clear R2 G2 F2 F02 hfd
          go_wp2_with fail
          try simp only [Exit.jump]
          go_ret2
          have hin1 : i + 1 = n := by have := HIM.out; have := HJ.out; omega
          have H10 := H9.out
          rw [hin1] at H10
          exact ⟨_, rfl, H10.1, H10.2.1, H10.2.2⟩
        | true =>
          have R2' := R2 rfl
          obtain ⟨F0, hF0, own0, rr0⟩ := HP.out.1
          have own1 := own_frm own0 F2 HK.out.1
          obtain ⟨A6, c6, rfl, hc6, -⟩ := R2'.out
          obtain ⟨n6, hn6⟩ : ∃ n6, txt.length = n6 := ⟨_, rfl⟩
          rw [hn6]
          have hb2 := World.ownsRow.alloc own1 (.cells #[.slice A6 n6 c6] 24)
          have F3 := F02.alloc (.cells #[.slice A6 n6 c6] 24)
          have hrd := one_rds w2 (.slice A6 n6 c6) 24
          have hol := gPut_olen fi O s i
          have hk9 : F0.length ≤ 24 := by
            have : F0.length = (gPut fi O s i).o.length := by rw [← hF0, List.length_map]
            rw [HS.out.2.2.2.2.2.2, List.length_nil] at hol
            omega
          have hsz : w.heap.size ≤ (w2.alloc (.cells #[.slice A6 n6 c6] 24)).heap.size := F3.size
          have H2 := Lib.hid (And.intro R2' (And.intro G2 (And.intro F2 (And.intro hF0 (And.intro rr0 (And.intro hn6 F02))))))
          clear R2 R2' G2 F2 hF0 rr0 hn6 hol own0 own1 hfd F02 F3
          go_wp2_with (at_builtin; go_must (refine wpList_append_rds _ rfl _ _ 22 rfl w.heap.size 24 j0 _ 1 24 Try.underlying22 hi0 hz0 hz1 hz2 rfl (by omega) vo F0.length (F0.map Fl.val) rfl hb2 (some ⟨w2.heap.size, 0, none⟩) 1 1 [.slice A6 n6 c6] rfl hrd (by simp [Value.oneCell']) (by unfold maxLen; omega) (by omega) hsz ?_; intro v3 w3 own3 hg3))
          have H9 := Lib.hid (PI.told HS.out.1 HP.out.2.1 hb2 own3 hg3 H2.out.1 H2.out.2.1 H2.out.2.2.1 H2.out.2.2.2.2.2.2 H2.out.2.2.2.1 H2.out.2.2.2.2.1 H2.out.2.2.2.2.2.1 HK.out.2 rfl rfl HE.out)
          clear own3 hg3 hb2 hrd hk9 hsz
          go_wp2_with fail
          try simp only [Exit.jump]
          go_ret2
          have hin1 : i + 1 = n := by have := HIM.out; have := HJ.out; omega
          have H10 := H9.out
          rw [hin1] at H10
          exact ⟨_, rfl, H10.1, H10.2.1, H10.2.2⟩
  · intro hpass
    cases gap with
    | true =>
      go_wp2_with fail
      refine hem.mono ?_
      rintro e w0 ⟨rfl, hwx⟩
      have hwx2 := hwx.symm
      clear hwx
      subst hwx2
      go_wp2_with fail
      refine hlose.mono ?_
      rintro e wr ⟨rfl, G1, F1⟩
      have e0 := HG.out.2
      have H1 := Lib.hid (show PI w wr g fi O s 0 (.slice none 0 0) from ⟨by show RowF _ _ _ s.o; rw [HS.out.2.2.2.2.2.2]; exact RowF.nil _ _, by rw [← e0]; exact G1, F1⟩)
      clear G1 F1 e0
      go_wp2_with fail
      go_step3
      refine (by assumption : ∀ (a : Act) (w : World), Code.wp Try.prog _ _ a w → _) _ _ (hpass _ _ ?_)
      exact ⟨0, _, _, _, _, _, _, _, _, _, _, _, _, _, _, _, _, _, _, _, _, _, _, _, _, _, _, _, _, _, _, _, _, _, _, _, _, _, _, _, _, _, _, _, _, _, _, _, _, _, _, _, _, _, _, _, _, _, _, _, _, _, _, _, _, _, _, _, _, _, _, _, _, _, _, _, _, _, _, _, _, _, _, _, rfl, by have := HJ.out; omega, H1.out⟩
    | false =>
      go_wp2_with fail
      refine hem.mono ?_
      rintro e w0 ⟨rfl, hwx⟩
      have hwx2 := hwx.symm
      clear hwx
      subst hwx2
      have e0 := HG.out.2
      have H1 := Lib.hid (show PI w w g fi O s 0 (.slice none 0 0) from ⟨by show RowF _ _ _ s.o; rw [HS.out.2.2.2.2.2.2]; exact RowF.nil _ _, by rw [← e0]; show IsG w g h (lost + 0); rw [Int.add_zero]; exact HG.out.1, Frm.refl _ _⟩)
      clear e0
      go_wp2_with fail
      go_step3
      refine (by assumption : ∀ (a : Act) (w : World), Code.wp Try.prog _ _ a w → _) _ _ (hpass _ _ ?_)
      exact ⟨0, _, _, _, _, _, _, _, _, _, _, _, _, _, _, _, _, _, _, _, _, _, _, _, _, _, _, _, _, _, _, _, _, _, _, _, _, _, _, _, _, _, _, _, _, _, _, _, _, _, _, _, _, _, _, _, _, _, _, _, _, _, _, _, _, _, _, _, _, _, _, _, _, _, _, _, _, _, _, _, _, _, _, _, rfl, by have := HJ.out; omega, H1.out⟩
end Go.Proofs.Ytccaaldfccgncaa.A
