/- What Tick of timers does. -/
import Derived.Test.YtighfhdkgfgcmaaC
namespace Go.Proofs.Ytighfhdkgfgcmaa.A
open Go.RowKit Go.Proofs.Ytighfhdkgfgcmaa.K Go.Proofs.Ytighfhdkgfgcmaa.N
set_option linter.unusedVariables false
set_option linter.unusedSimpArgs false

/-- The first k running timers have gone on by a tick. -/
def tickTo (L : List Int) (k : Nat) : List Int × List Nat := ((runL L).take k).foldl stepF (L, [])
theorem tickTo_succ (L : List Int) (k : Nat) (h : k < (runL L).length) : tickTo L (k + 1) = stepF (tickTo L k) ((runL L).getD k 0) := by
  unfold tickTo
  rw [List.take_succ_eq_append_getElem h, List.foldl_append, List.getD_eq_getElem?_getD, List.getElem?_eq_getElem h]
  rfl
theorem tickTo_all {L : List Int} (h : L.length = 8) : tickTo L (runL L).length = (tickL L, tickO L) := by
  unfold tickTo; rw [List.take_length]; exact fold_run h
theorem tickTo_spec {L : List Int} (h : L.length = 8) (k : Nat) (hk : k < (runL L).length) :
    (tickTo L k).1.length = 8 ∧ (runL L).getD k 0 < 8 ∧ 0 < L.getD ((runL L).getD k 0) 0 ∧ (tickTo L k).1.getD ((runL L).getD k 0) 0 = L.getD ((runL L).getD k 0) 0 ∧ (tickTo L k).2.length ≤ 8 := by
  have hn := runL_nodup L
  obtain ⟨a, b, c⟩ := fold_spec ((runL L).take k) L [] (hn.sublist (List.take_sublist _ _)) (fun i hi => by have := runL_lt L i (List.mem_of_mem_take hi); omega)
  have e : (runL L).getD k 0 = (runL L)[k] := by rw [List.getD_eq_getElem?_getD, List.getElem?_eq_getElem hk]; rfl
  have hr := runL_lt L (runL L)[k] (List.getElem_mem hk)
  rw [e]
  refine ⟨a.trans h, hr.1, hr.2, ?_, ?_⟩
  · show (tickTo L k).1.getD _ 0 = _
    unfold tickTo
    rw [b, if_neg]
    intro hm
    obtain ⟨j, hj, hjk⟩ := List.getElem_of_mem hm
    rw [List.getElem_take] at hjk
    have hj2 : j < (runL L).length := by simp at hj; omega
    have := (List.getElem_inj hn).1 hjk
    simp at hj; omega
  · show (tickTo L k).2.length ≤ 8
    unfold tickTo
    rw [c]
    have h1 := List.length_filter_le (fun i => decide (L.getD i 0 = 1)) ((runL L).take k)
    have h2 : ((runL L).take k).length ≤ 8 := by
      have h3 : (runL L).length ≤ 8 := by
        have := List.length_filter_le (fun i => decide (0 < L.getD i 0)) (List.range 8)
        simpa [runL] using this
      simp; omega
    simp only [List.nil_append]; omega

theorem row_frm {S : Nat → Prop} {w w2 w3 : World} {v : Value} {l : List Nat} (h : Row w v l w2) (hf : Frm S w2 w3) (hS : ∀ k cs, Blk w2 k cs 3 → ¬ S k) : Row w v l w3 := own_frm h hf hS

/-- What a slice handed back reads as. -/
theorem handed_cells {w1 : World} {B : Nat} {v : Value} {l : List Nat} (h : w1.ownsRow B 3 1 v (ints l).length ((ints l).map (Value.int .i64))) :
    ∃ A c, v = .slice A l.length c ∧ ∀ j, j < l.length → ∃ ad, A = some ad ∧ (∃ cs, Blk w1 ad.block cs 3) ∧ w1.cell? (ad.add j) = some (.int .i64 (l.getD j 0 : Nat)) := by
  rcases h.2 with ⟨rfl, h0⟩ | ⟨g, cap, cur, rfl, hg, hh, h1, h2, h3⟩
  · have hl : l.length = 0 := by rw [← ints_length]; exact h0
    exact ⟨none, 0, by rw [hl], fun j hj => absurd hj (by omega)⟩
  · refine ⟨_, cap, by rw [ints_length], fun j hj => ⟨⟨g, 0, none⟩, rfl, ⟨cur, hh⟩, ?_⟩⟩
    refine h.cells (g := g) rfl j _ ?_
    simp [ints, List.getElem?_eq_getElem hj, List.getD_eq_getElem?_getD]

theorem own_le {w : World} {b base e size n : Nat} {v : Value} {xs : List Value} (h : w.ownsRow base e size v n xs) (hb : b ≤ base) : w.ownsRow b e size v n xs := by
  obtain ⟨h1, h2⟩ := h
  refine ⟨h1, ?_⟩
  rcases h2 with h2 | ⟨g, cap, cur, hv, hg, r⟩
  · exact .inl h2
  · exact .inr ⟨g, cap, cur, hv, Nat.le_trans hb hg, r⟩

theorem tick_push {w1 W w3 : World} {g gg cap i : Nat} {L2 : List Int} {l : List Nat} {vo : Value} {o : Obj} (hT : IsT W g true L2) (hR : Row w1 vo l W) (hF : Frm (fun x => x = g) w1 W)
    (hown : w3.ownsRow w1.heap.size 3 1 (.slice (some ⟨gg, 0, none⟩) (l.length + 1) cap) (l.length + 1) ((ints l).map (Value.int .i64) ++ [.int .i64 i])) (hg : (W.alloc o).drew.grownBy w3 vo.ownBlock) :
    IsT w3 g true L2 ∧ Row w1 (.slice (some ⟨gg, 0, none⟩) (l.length + 1) cap) (l ++ [i]) w3 ∧ Frm (fun x => x = g) w1 w3 := by
  have hg' : (W.alloc o).grownBy w3 vo.ownBlock := ⟨hg.os, hg.tape, hg.output, hg.size, hg.block⟩
  obtain ⟨r1, r2⟩ := row_push hF hR hown hg'
  refine ⟨⟨(hT.1.alloc o).grown hg' (fun e => ?_), hT.2⟩, r1, r2⟩
  have hR' : (W.alloc o).ownsRow w1.heap.size 3 1 vo l.length ((ints l).map (Value.int .i64)) := World.ownsRow.alloc hR o
  obtain ⟨_, cs, hb⟩ := own_blk hR' e
  exact Blk.ne hb (hT.1.alloc o) (by decide) rfl

set_option maxRecDepth 100000 in
set_option maxHeartbeats 4000000 in
theorem tick_ok (w : World) (g : Nat) (L : List Int) (h : IsT w g true L) (hb : ∀ k, L.getD k 0 ≤ 1000) :
    Calls Try.prog 9 #[.pointer (some ⟨g, 0, none⟩)] w (Handed (fun x => x = g) (fun w' => IsT w' g true (tickL L)) w (ints (tickO L))) := by
  obtain ⟨i0, hi, hz0, hz1, hz2⟩ := info_parts info3
  have hl8 := h.2
  have hgl := h.1.lt
  go_enter Try.func9, Try.ntmps9
  go_wp2_with fail
  refine (running_ok w g L h).mono ?_
  rintro e w1 ⟨v, rfl, ho, f1, -⟩
  obtain ⟨A, c, rfl, hcl⟩ := handed_cells ho
  have h1 := h.frm f1 (fun h => h)
  clear ho
  have HB := Lib.hid hb
  have HCL := Lib.hid hcl
  have HL8 := Lib.hid hl8
  have hsz1 := f1.size
  have hr8 : (runL L).length ≤ 8 := by
    have := List.length_filter_le (fun i => decide (0 < L.getD i 0)) (List.range 8)
    simpa [runL] using this
  clear hb hcl hl8 h
  go_wp2_with fail
  go_loopw [3, 9] (fun vo vi wr => ∃ k : Nat, vi = .int .i64 k ∧ k ≤ (runL L).length ∧ IsT wr g true (tickTo L k).1 ∧ Row w1 vo (tickTo L k).2 wr ∧ Frm (fun x => x = g) w1 wr) (fun _ vi _ => (runL L).length - (intOf vi).toNat)
  case atStart => exact ⟨0, rfl, by omega, h1, World.ownsRow_nil _ _ _ _, Frm.refl _ _⟩
  case round =>
    obtain ⟨k, rfl, hk, ht, ho, hF⟩ := hrel
    by_cases hlt : k < (runL L).length
    · obtain ⟨t1, t2, t3, t4, t5⟩ := tickTo_spec HL8.out k hlt
      have hstep := tickTo_succ L k hlt
      have hbx := HB.out ((runL L).getD k 0)
      obtain ⟨ad, rfl, ⟨cs, hbk⟩, hc⟩ := HCL.out k hlt
      have hne : ad.block ≠ g := Blk.ne hbk h1.1 (by decide)
      have hcell : wr.cell? (ad.add k) = some (.int .i64 ((runL L).getD k 0 : Nat)) := (World.cell?_of_block (hF.block _ (by rw [block_add]; exact hbk.lt) (by rw [block_add]; exact hne))).trans hc
      obtain ⟨L', hL'⟩ : ∃ L', (tickTo L k).1 = L' := ⟨_, rfl⟩
      obtain ⟨O', hO'⟩ : ∃ O', (tickTo L k).2 = O' := ⟨_, rfl⟩
      obtain ⟨i, hi'⟩ : ∃ i, (runL L).getD k 0 = i := ⟨_, rfl⟩
      rw [hL'] at t1 t4 ht
      rw [hO'] at t5 ho
      have hst : tickTo L k = (L', O') := Prod.ext hL' hO'
      rw [hst] at hstep
      rw [hi'] at t2 t3 t4 hbx hcell hstep
      obtain ⟨x, hx⟩ : ∃ x, L.getD i 0 = x := ⟨_, rfl⟩
      rw [hx] at t3 t4 hbx
      have hx1 := ht.cell t2
      have hx2 := ht.1.free (1 + i)
      rw [t4] at hx1
      have i0' : (0 : Int) ≤ (i : Int) := Int.natCast_nonneg _
      have i8 : (i : Int) < 8 := by omega
      have HST := Lib.hid hstep
      have H4 := Lib.hid t4
      clear hL' hO' hi' hst hstep hx hc hbk hne t4 t1
      have hstep' : stepF (L', O') i = (L'.set i (x - 1), if x = 1 then O' ++ [i] else O') := by
        show (L'.set i (L'.getD i 0 - 1), if L'.getD i 0 = 1 then O' ++ [i] else O') = _
        rw [H4.out]
      have HS2 := Lib.hid hstep'
      clear hstep'
      have hT2 := (ht.set i (x - 1))
      have hR2 : Row w1 u3 O' (wr.setCell ⟨g, 1 + i, none⟩ (.int .i64 (x - 1))) := own_set ho ht.1 (by decide) _ _
      have hF2 : Frm (fun x => x = g) w1 (wr.setCell ⟨g, 1 + i, none⟩ (.int .i64 (x - 1))) := hF.self _ _
      have hsz2 := hF2.size
      clear ht ho hF
      by_cases hx1' : x = 1
      · subst hx1'
        have hm : (1 : Int) - 1 = 0 := by decide
        rw [hm] at hT2 hR2 hF2 hsz2
        unfold Row at hR2
        clear hm
        go_wp2_with fail
        go_region
        go_wp2_with (at_builtin; go_must (refine wpList_append_lies _ rfl _ _ 30 rfl w1.heap.size 3 i0 _ 1 8 Try.underlying30 hi hz0 hz1 hz2 rfl (by omega) _ O'.length ((ints O').map (Value.int .i64)) rfl (hR2.alloc _).drew ⟨wr.heap.size, 0, none⟩ 1 1 [.int .i64 i] rfl rfl (World.news_of_block (cs := #[.int .i64 i]) (t := 3) (fr := (0, 0)) (by have h := heap_alloc_new (wr.setCell ⟨g, 1 + i, none⟩ (.int .i64 0)) (.cells #[.int .i64 i] 3); rw [World.size_setCell] at h; exact h)) (by simp [Value.oneCell']) (by omega) (by unfold maxLen; omega) (by omega) (by simp at hsz2 ⊢; omega) (wr.heap.size + 1) (by simp) ?_); intro gg cap w3 hown3 hgrow3 hat3 hlt3)
        go_roundw
        case rel =>
          obtain ⟨r0, r1, r2⟩ := tick_push hT2 hR2 hF2 hown3 hgrow3
          exact ⟨k + 1, by go_num, by omega, by rw [HST.out, HS2.out]; exact r0, by rw [HST.out, HS2.out]; exact r1, r2⟩
        case measure => simp [intOf]; omega
      · have hd : (x - 1 == 0) = false := by simp; omega
        have HX := Lib.hid hx1'
        clear hx1'
        go_wp2_with fail
        go_region
        go_wp2_with fail
        go_roundw
        case rel => exact ⟨k + 1, by go_num, by omega, by rw [HST.out, HS2.out]; exact ⟨hT2.1.drew, hT2.2⟩, by rw [HST.out, HS2.out, if_neg HX.out]; exact hR2, hF2.drew⟩
        case measure => simp [intOf]; omega
    · have hkn : k = (runL L).length := by omega
      have hall := tickTo_all HL8.out
      subst hkn
      rw [hall] at ht ho
      go_wp2_with fail
      go_ret
      refine ⟨_, rfl, ?_, ?_, ht⟩
      · rw [ints_length]
        exact own_le (show wr.ownsRow w1.heap.size 3 1 u3 (tickO L).length ((ints (tickO L)).map (Value.int .i64)) from ho) hsz1
      · exact (f1.mono (fun _ h => h.elim)).trans hF
end Go.Proofs.Ytighfhdkgfgcmaa.A
