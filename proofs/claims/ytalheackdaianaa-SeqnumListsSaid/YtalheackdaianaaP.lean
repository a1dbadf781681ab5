/- What the document's Between does, and SeqnumLists' walk. -/
import Derived.Test.YtalheackdaianaaM
import Derived.Deep.QuietTactic
namespace Go.Proofs.Ytalheackdaianaa.A
open Go.RowKit Go.Proofs.Ytalheackdaianaa.K Go.Proofs.Ytalheackdaianaa.N
set_option linter.unusedVariables false
set_option linter.unusedSimpArgs false

set_option maxHeartbeats 2000000 in
theorem rbetween_bad (b x y E : Int) (w : World) (hE : farE b x y = E) (h0 : E ≠ 0) : Calls Try.prog 21 #[.int .i64 b, .int .i64 x, .int .i64 y] w (Handed w [] E) := by
  have hd : (E != 0) = true := by simpa using h0
  have HE := Lib.hid hE
  clear hE h0
  go_enter Try.func21, Try.ntmps21
  go_wp2_with fail
  refine (rfar_is b x y E _ _ HE.out rfl).mono ?_
  rintro e w1 ⟨rfl, rfl⟩
  go_wp2_with fail
  go_ret2
  exact ⟨_, rfl, World.ownsRow_nil _ _ _ _, Frm.refl _ _⟩

set_option maxHeartbeats 2000000 in
theorem rbetween_long (b x y N : Int) (w : World) (hE : farE b x y = 0) (hN : farN b x y = N) (h0 : 1024 < N) : Calls Try.prog 21 #[.int .i64 b, .int .i64 x, .int .i64 y] w (Handed w [] 2) := by
  have HE := Lib.hid hE
  have HN := Lib.hid hN
  clear hE hN
  go_enter Try.func21, Try.ntmps21
  go_wp2_with fail
  refine (rfar_is b x y 0 N _ HE.out HN.out).mono ?_
  rintro e w1 ⟨rfl, rfl⟩
  go_wp2_with fail
  go_ret2
  exact ⟨_, rfl, World.ownsRow_nil _ _ _ _, Frm.refl _ _⟩

/-- A row of the call's own as it grows, at a head of the loop. -/
def Grown2 (w : World) (b x : Int) (N k : Nat) (vo vn : Value) (wr : World) : Prop :=
  vn = .int .i64 ((x + k) % sz b) ∧ k ≤ N ∧ wr.ownsRow w.heap.size 3 1 vo k ((run b x k).map (Value.int .i64)) ∧ Frm No w wr

theorem grown2_step {w w2 w3 : World} {b x : Int} {N k gg cap : Nat} {vo : Value} {o : Obj} (hk : k < N) (hF : Frm No w w2) (ho : w2.ownsRow w.heap.size 3 1 vo k ((run b x k).map (Value.int .i64)))
    (hown : w3.ownsRow w.heap.size 3 1 (.slice (some ⟨gg, 0, none⟩) (k + 1) cap) (k + 1) ((run b x k).map (Value.int .i64) ++ [.int .i64 ((x + k) % sz b)])) (hg : (w2.alloc o).grownBy w3 vo.ownBlock) :
    w3.ownsRow w.heap.size 3 1 (.slice (some ⟨gg, 0, none⟩) (k + 1) cap) (k + 1) ((run b x (k + 1)).map (Value.int .i64)) ∧ Frm No w w3 := by
  refine ⟨?_, (hF.alloc o).grown hg (fun q e => .inr (own_blk (ho.alloc o) e).1)⟩
  rw [run_succ, List.map_append]; exact hown

set_option maxRecDepth 100000 in
set_option maxHeartbeats 2000000 in
theorem rbetween_ok (b x y : Int) (N : Nat) (w : World) (hE : farE b x y = 0) (hN : farN b x y = N) (h0 : N ≤ 1024) : Calls Try.prog 21 #[.int .i64 b, .int .i64 x, .int .i64 y] w (Handed w (run b x N) 0) := by
  obtain ⟨hb, hz⟩ := askS_zero hE
  have hx := hz x (by simp)
  have hy := hz y (by simp)
  have hr := sz_range hb
  have hNv : (N : Int) = (y - x) % sz b := by rw [← hN]; unfold farN; rw [hE]; rfl
  obtain ⟨S, hS⟩ : ∃ S, sz b = S := ⟨_, rfl⟩
  rw [hS] at hr hx hy hNv
  have hsub := em_sub hx hy
  have HS := Lib.hid hS
  have HE := Lib.hid hE
  have HN := Lib.hid hN
  -- where the number stands behind k steps
  have hat : ∀ k : Nat, k ≤ N → ((x + k) % S = y ↔ k = N) ∧ 0 ≤ (x + k) % S ∧ (x + k) % S < S := fun k hk => by
    have e0 := Int.emod_nonneg (x + k) (show S ≠ 0 by omega)
    have e1 := Int.emod_lt_of_pos (x + k) (show 0 < S by omega)
    refine ⟨?_, e0, e1⟩
    by_cases hw : x + k < S
    · rw [Int.emod_eq_of_lt (by omega) hw]; omega
    · have e2 : (x + k) % S = x + k - S := by
        have : x + (k : Int) = (x + k - S) + S := by omega
        rw [this, Int.add_emod_right]
        have : x + (k : Int) - S + S - S = x + k - S := by omega
        rw [Int.emod_eq_of_lt (by omega) (by omega)]
        omega
      rw [e2]; omega
  have hnext : ∀ k : Nat, ((x + k) % S + 1) % S = (x + (k + 1 : Nat)) % S := fun k => by
    rw [em_add]; congr 1; omega
  have HAT := Lib.hid hat
  have HNX := Lib.hid hnext
  clear hE hN hz hb hS hat hnext hsub hNv
  obtain ⟨i0, hi, hz0, hz1, hz2⟩ := info_parts info3
  go_enter Try.func21, Try.ntmps21
  go_wp2_with fail
  refine (rfar_is b x y 0 N _ HE.out HN.out).mono ?_
  rintro e w1 ⟨rfl, rfl⟩
  go_wp2_with fail
  go_loopg [10, 11] N (fun q vo vn wr => ∃ k : Nat, q + k = N ∧ Grown2 w b x N k vo vn wr)
  case atStart =>
    refine ⟨0, by omega, ?_, by omega, World.ownsRow_nil _ _ _ _, Frm.refl _ _⟩
    have : (x + ((0 : Nat) : Int)) % sz b = x := by
      rw [HS.out, show x + ((0 : Nat) : Int) = x by omega]; exact Int.emod_eq_of_lt hx.1 hx.2
    rw [this]
  case round =>
    obtain ⟨k, hq, rfl, hk, ho, hF⟩ := hrel
    rw [HS.out]
    obtain ⟨t1, t2, t3⟩ := HAT.out k hk
    have hM := HNX.out k
    obtain ⟨v, hv⟩ : ∃ v, (x + k) % S = v := ⟨_, rfl⟩
    rw [hv] at t1 t2 t3 hM
    rw [hv]
    by_cases hlt : k < N
    · have hne : (v != y) = true := by
        have : ¬ v = y := fun h => by have := t1.1 h; omega
        simpa using this
      have HV := Lib.hid hv
      have HM := Lib.hid hM
      have hsz := hF.size
      have HQ := Lib.hid hq
      clear hv t1 hM hq
      go_wp2_with (first | (at_builtin; refine wpList_append_lies _ rfl _ _ 39 rfl w.heap.size 3 i0 _ 1 8 Try.underlying39 hi hz0 hz1 hz2 rfl (by omega) _ k ((run b x k).map (Value.int .i64)) rfl (ho.alloc _) ⟨wr.heap.size, 0, none⟩ 1 1 [.int .i64 v] rfl rfl (World.news_of_block (cs := #[.int .i64 v]) (t := 3) (fr := (0, 0)) (heap_alloc_new wr _)) (by simp [Value.oneCell']) (by omega) (by unfold maxLen; omega) (by omega) (by simp; omega) (wr.heap.size + 1) (by simp) ?_; intro gg cap w3 hown3 hgrow3 hat3 hlt3))
      refine (rsize_is b S _ HS.out).mono ?_
      rintro e w4 ⟨rfl, rfl⟩
      go_wp2_with fail
      refine (mod_is (v + 1) S _ _ rfl (by omega) (by omega) (by omega) (by omega)).mono ?_
      rintro e w4 ⟨rfl, rfl⟩
      go_wp2_with fail
      have hown3' : w3.ownsRow w.heap.size 3 1 (.slice (some ⟨gg, 0, none⟩) (k + 1) cap) (k + 1) ((run b x k).map (Value.int .i64) ++ [.int .i64 ((x + k) % sz b)]) := by
        rw [HS.out, HV.out]; exact hown3
      obtain ⟨o1, o2⟩ := grown2_step hlt hF ho hown3' hgrow3
      go_roundg (N - (k + 1))
      case rel => exact ⟨k + 1, by omega, by rw [HM.out, HS.out], by omega, o1, o2⟩
      case measure => have := HQ.out; omega
    · have hkN : k = N := by omega
      have hvy : v = y := t1.2 hkN
      subst hvy
      subst hkN
      clear hv t1 hM hq
      go_wp2_with fail
      go_ret2
      exact ⟨_, rfl, by rw [run_length]; exact ho, hF⟩

/-- What a Between gives, of both makes. -/
theorem between_any (b x y : Int) (w : World) : Calls Try.prog 20 #[.agg #[.int .i64 b], .int .i64 x, .int .i64 y] w (Handed w (betL b x y) (betE b x y)) := by
  by_cases h : farE b x y = 0
  · by_cases hn : 1024 < farN b x y
    · have e : betE b x y = 2 := by unfold betE; rw [if_pos h, if_pos hn]
      have e2 : betL b x y = [] := by unfold betL; rw [e]; rfl
      rw [e, e2]; exact between_long b x y _ w h rfl hn
    · have e : betE b x y = 0 := by unfold betE; rw [if_pos h, if_neg hn]
      have e2 : betL b x y = run b x (farN b x y).toNat := by unfold betL; rw [e]; rfl
      have := farN_le b x y
      rw [e, e2]; exact between_ok b x y _ w h (Int.toNat_of_nonneg this.1).symm (by omega)
  · have e : betE b x y = farE b x y := by unfold betE; rw [if_neg h]
    have e2 : betL b x y = [] := by unfold betL; rw [e, if_neg h]
    rw [e, e2]; exact between_bad b x y _ w rfl h
theorem rbetween_any (b x y : Int) (w : World) : Calls Try.prog 21 #[.int .i64 b, .int .i64 x, .int .i64 y] w (Handed w (betL b x y) (betE b x y)) := by
  by_cases h : farE b x y = 0
  · by_cases hn : 1024 < farN b x y
    · have e : betE b x y = 2 := by unfold betE; rw [if_pos h, if_pos hn]
      have e2 : betL b x y = [] := by unfold betL; rw [e]; rfl
      rw [e, e2]; exact rbetween_long b x y _ w h rfl hn
    · have e : betE b x y = 0 := by unfold betE; rw [if_pos h, if_neg hn]
      have e2 : betL b x y = run b x (farN b x y).toNat := by unfold betL; rw [e]; rfl
      have := farN_le b x y
      rw [e, e2]; exact rbetween_ok b x y _ w h (Int.toNat_of_nonneg this.1).symm (by omega)
  · have e : betE b x y = farE b x y := by unfold betE; rw [if_neg h]
    have e2 : betL b x y = [] := by unfold betL; rw [e, if_neg h]
    rw [e, e2]; exact rbetween_bad b x y _ w rfl h

set_option maxRecDepth 100000 in
set_option maxHeartbeats 8000000 in
theorem lists_core (bits base a b E F1 F2 G N1 N2 : Int) (L : List Int) (T : Bool) (w : World) (hE : betE bits a b = E) (hL : betL bits a b = L)
    (h1 : lessE bits base a b = G) (x1 : lessB bits base a b = T) (h2 : farE bits base a = F1) (x2 : farN bits base a = N1) (h3 : farE bits base b = F2) (x3 : farN bits base b = N2)
    (hc : ((F1 != 0) = true ∧ (F1 == 0) = false ∧ G = F1 ∧ T = false) ∨ (F1 = 0 ∧ (F2 != 0) = true ∧ G = F2 ∧ T = false) ∨ (F1 = 0 ∧ F2 = 0 ∧ G = 0 ∧ (T == decide (N1 < N2)) = true)) :
    Calls Try.prog 6 #[.int .i64 bits, .int .i64 base, .int .i64 a, .int .i64 b] w fun e w' => e = .returned (.bool true) ∧ Frm No w w' := by
  have b0 := Blk.new w #[.int .i64 bits] 23
  have g0 := (Frm.refl No w).alloc (.cells #[.int .i64 bits] 23)
  have HE := Lib.hid hE
  have HL := Lib.hid hL
  have H1 := Lib.hid h1
  have H2 := Lib.hid h2
  have H3 := Lib.hid h3
  have Q1 := Lib.hid x1
  have Q2 := Lib.hid x2
  have Q3 := Lib.hid x3
  have HC := Lib.hid hc
  clear hE hL h1 h2 h3 x1 x2 x3 hc
  go_enter Try.func6, Try.ntmps6
  go_wp2_with fail
  refine (show Calls Try.prog 20 #[.agg #[.int .i64 bits], .int .i64 a, .int .i64 b] (w.alloc (.cells #[.int .i64 bits] 23)) (Handed (w.alloc (.cells #[.int .i64 bits] 23)) L E) from HE.out ▸ HL.out ▸ between_any bits a b _).mono ?_
  rintro e w1 ⟨v1, rfl, o1, f1⟩
  obtain ⟨A1, c1, rfl, hm, hc1⟩ := own_cells o1
  have b1 := f1.blk b0 (fun h => h)
  have g1 := g0.thenN f1
  clear b0 g0 o1
  go_wp2_with fail
  refine (show Calls Try.prog 21 #[.int .i64 bits, .int .i64 a, .int .i64 b] w1 (Handed w1 L E) from HE.out ▸ HL.out ▸ rbetween_any bits a b _).mono ?_
  rintro e w2 ⟨v2, rfl, o2, f2⟩
  obtain ⟨A2, c2, rfl, _, hc2⟩ := own_cells o2
  have b2 := f2.blk b1 (fun h => h)
  have g2 := g1.thenN f2
  have hc1' : ∀ j, j < L.length → ∃ ad, A1 = some ad ∧ w2.cell? (ad.add j) = some (.int .i64 (L.getD j 0)) := fun j hj => by
    obtain ⟨ad, e, hc⟩ := hc1 j hj
    exact ⟨ad, e, (World.cell?_of_block (f2.block _ (World.block_lt_of_cell? _ _ hc) (fun h => h))).trans hc⟩
  clear f1 b1 g1 o2 hc1 f2
  go_wp2_with fail
  go_loopw [14] (fun vi wr => ∃ k : Nat, vi = .int .i64 k ∧ k ≤ L.length ∧ (∀ p : Addr, wr.cell? p = w2.cell? p) ∧ Blk wr w.heap.size #[.int .i64 bits] 23 ∧ Frm No w wr) (fun vi _ => L.length - (intOf vi).toNat)
  case atStart => exact ⟨0, rfl, by omega, fun _ => rfl, b2, g2⟩
  case round =>
    clear b2 g2
    obtain ⟨k, rfl, hk, hsame, b3, g3⟩ := hrel
    by_cases hlt : k < L.length
    · obtain ⟨ad1, rfl, k1⟩ := hc1' k hlt
      obtain ⟨ad2, rfl, k2⟩ := hc2 k hlt
      have l1 := (hsame (ad1.add k)).trans k1
      have l2 := (hsame (ad2.add k)).trans k2
      have HSM := Lib.hid hsame
      generalize L.getD k 0 = z at l1 l2
      have i0 : (0 : Int) ≤ (k : Int) := Int.natCast_nonneg _
      have i1 : (k : Int) < (L.length : Int) := by omega
      clear k1 k2 hc1' hc2 hsame
      go_wp2_with fail
      go_quiet (fail)
      go_wp2_with fail
      go_roundw
      case rel => exact ⟨k + 1, by go_num, by omega, HSM.out, b3.drewN _, g3.drewN _⟩
      case measure => simp [intOf]; omega
    · have c3 : wr.cell? ⟨w.heap.size, 0, none⟩ = some (.int .i64 bits) := b3.cell 0
      clear hc1' hc2 hsame
      rcases HC.out with ⟨d1, d2, d3, d4⟩ | ⟨d1, d2, d3, d4⟩ | ⟨d1, d2, d3, d4⟩
      · subst d3 d4
        clear HC
        go_wp2_with fail
        refine (less_is bits base a b G false _ H1.out Q1.out).mono ?_
        rintro e w4 ⟨rfl, f4⟩
        have b4 := f4.blk b3 (fun h => h)
        have g4 := g3.thenN f4
        have c4 : w4.cell? ⟨w.heap.size, 0, none⟩ = some (.int .i64 bits) := b4.cell 0
        clear f4 b3 g3 c3
        go_wp2_with fail
        refine (rfar_is bits base a G N1 _ H2.out Q2.out).mono ?_
        rintro e wq ⟨rfl, rfl⟩
        go_wp2_with fail
        refine (rfar_is bits base b F2 N2 _ H3.out Q3.out).mono ?_
        rintro e wq ⟨rfl, rfl⟩
        go_wp2_with fail
        refine (alive_yes _).mono ?_
        rintro e w5 ⟨rfl, f5⟩
        have b5 := f5.blk b4 (fun h => h)
        have g5 := g4.thenN f5
        have c5 : w5.cell? ⟨w.heap.size, 0, none⟩ = some (.int .i64 bits) := b5.cell 0
        clear f5 b4 g4 c4
        go_wp2_with fail
        go_ret
        exact ⟨rfl, g5⟩
      · subst d1 d3 d4
        clear HC
        go_wp2_with fail
        refine (less_is bits base a b G false _ H1.out Q1.out).mono ?_
        rintro e w4 ⟨rfl, f4⟩
        have b4 := f4.blk b3 (fun h => h)
        have g4 := g3.thenN f4
        have c4 : w4.cell? ⟨w.heap.size, 0, none⟩ = some (.int .i64 bits) := b4.cell 0
        clear f4 b3 g3 c3
        go_wp2_with fail
        refine (rfar_is bits base a 0 N1 _ H2.out Q2.out).mono ?_
        rintro e wq ⟨rfl, rfl⟩
        go_wp2_with fail
        refine (rfar_is bits base b G N2 _ H3.out Q3.out).mono ?_
        rintro e wq ⟨rfl, rfl⟩
        go_wp2_with fail
        refine (alive_yes _).mono ?_
        rintro e w5 ⟨rfl, f5⟩
        have b5 := f5.blk b4 (fun h => h)
        have g5 := g4.thenN f5
        have c5 : w5.cell? ⟨w.heap.size, 0, none⟩ = some (.int .i64 bits) := b5.cell 0
        clear f5 b4 g4 c4
        go_wp2_with fail
        go_ret
        exact ⟨rfl, g5⟩
      · subst d1 d2 d3
        clear HC
        go_wp2_with fail
        refine (less_is bits base a b 0 T _ H1.out Q1.out).mono ?_
        rintro e w4 ⟨rfl, f4⟩
        have b4 := f4.blk b3 (fun h => h)
        have g4 := g3.thenN f4
        have c4 : w4.cell? ⟨w.heap.size, 0, none⟩ = some (.int .i64 bits) := b4.cell 0
        clear f4 b3 g3 c3
        go_wp2_with fail
        refine (rfar_is bits base a 0 N1 _ H2.out Q2.out).mono ?_
        rintro e wq ⟨rfl, rfl⟩
        go_wp2_with fail
        refine (rfar_is bits base b 0 N2 _ H3.out Q3.out).mono ?_
        rintro e wq ⟨rfl, rfl⟩
        go_wp2_with fail
        refine (alive_yes _).mono ?_
        rintro e w5 ⟨rfl, f5⟩
        have b5 := f5.blk b4 (fun h => h)
        have g5 := g4.thenN f5
        have c5 : w5.cell? ⟨w.heap.size, 0, none⟩ = some (.int .i64 bits) := b5.cell 0
        clear f5 b4 g4 c4
        go_wp2_with fail
        go_ret
        exact ⟨rfl, g5⟩

theorem lists_walk (bits base a b : Int) (w : World) (_ : (Lit.int .i64 bits).wf = true) (_ : (Lit.int .i64 base).wf = true) (_ : (Lit.int .i64 a).wf = true) (_ : (Lit.int .i64 b).wf = true) :
    Calls Try.prog 6 #[.int .i64 bits, .int .i64 base, .int .i64 a, .int .i64 b] w fun e w' => e = .returned (.bool true) ∧ Frm No w w' := by
  refine lists_core bits base a b _ _ _ _ _ _ _ _ w rfl rfl rfl rfl rfl rfl rfl rfl ?_
  by_cases h1 : farE bits base a = 0
  · by_cases h2 : farE bits base b = 0
    · right; right
      refine ⟨h1, h2, ?_, ?_⟩
      · unfold lessE; rw [if_pos h1]; exact h2
      · unfold lessB lessE; rw [if_pos h1, h2]; simp
    · right; left
      refine ⟨h1, by simpa using h2, ?_, ?_⟩
      · unfold lessE; rw [if_pos h1]
      · unfold lessB lessE; rw [if_pos h1, decide_eq_false h2]; rfl
  · left
    refine ⟨by simpa using h1, by simpa using h1, ?_, ?_⟩
    · unfold lessE; rw [if_neg h1]
    · unfold lessB lessE; rw [if_neg h1, decide_eq_false h1]; rfl
end Go.Proofs.Ytalheackdaianaa.A
