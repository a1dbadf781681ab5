/- Spoil's walk. -/
import Derived.Test.YtbhkhabkkghapaaWG
namespace Go.Proofs.Ytbhkhabkkghapaa.A
open Go.RowKit Go.Proofs.Ytbhkhabkkghapaa.K Go.Proofs.Ytbhkhabkkghapaa.N Go.Proofs.Ytbhkhabkkghapaa.F
set_option linter.unusedVariables false
set_option linter.unusedSimpArgs false

theorem store_cx (a : Addr) (k : FloatKind) (x y : Nat) (m : Mode) (w : World) : (store a (.complex k x y) m).run Try.prog w = stored Try.prog w a (.complex k x y) m := run_store Try.prog w a _ m rfl
theorem nearp_four {p : Pt} (h : Four p) : (sg p.1, sg p.2) = p := by
  obtain ⟨h1, h2⟩ := h
  obtain ⟨x, y⟩ := p
  simp only at h1 h2
  unfold sg
  rcases h1 with rfl | rfl <;> rcases h2 with rfl | rfl <;> rfl
set_option maxRecDepth 100000 in
set_option maxHeartbeats 8000000 in
theorem spoil_core (w : World) (B g : Nat) (k : Option Nat) (L : List (List Nat)) (se lo : Int) (i a : Nat) (q : Int) (h : IsW w B g k L se lo) (hF : Fits L) (hi : i < L.length) (ha : a < 4 * (L.getD i []).length) : Calls Try.prog 10 #[.pointer (some ⟨g, 0, none⟩), .int .i64 (i : Int), .int .i64 (a : Int), .int .i64 q] w fun e w' =>
    e = .returned (.int .i64 0) ∧ IsW w' B g k (L.set i (spoilB (L.getD i []) a q)) se lo ∧ Frm (fun x => k = some x) w w' := by
  have hc := ask_any w B g k L se lo (i : Int) h
  have e1 : askI L (i : Int) = 0 := if_pos ⟨by omega, by omega⟩
  rw [e1] at hc
  have hL := h.1
  obtain ⟨A, c, S, hbk, hlc, hr⟩ := h.cells
  obtain ⟨f1, f2⟩ := fits_all hF hi
  obtain ⟨ad, rfl, ca, hB⟩ := hr.at_ hi
  obtain ⟨⟨bA, bn, bc⟩, hbl⟩ : ∃ b, S.getD i bl0 = b := ⟨_, rfl⟩
  rw [hbl] at ca hB
  have ca' : w.cell? (ad.add i) = some (.slice bA bn bc) := ca
  obtain ⟨b1, b2, b3⟩ := hB
  obtain ⟨bs, hbs⟩ : ∃ bs, L.getD i [] = bs := ⟨_, rfl⟩
  rw [hbs] at f1 f2 b1 b3 ha
  have b1' : bs.length = bn := b1.symm
  rw [hbs]
  have hof := of_bin w bA bn bc bs b3.1 b1' (by omega) f2
  obtain ⟨m, hm⟩ : ∃ m, L.length = m := ⟨_, rfl⟩
  rw [hm] at hi hbk hr hlc hL
  have k1 : w.cell? ⟨g, 1, none⟩ = some (.slice (some ad) m c) := hbk.cell 1
  have hplen := ofL_len bs
  rw [b1'] at ha hplen
  have i0 : (0 : Int) ≤ (i : Int) := Int.natCast_nonneg _
  have i1 : (i : Int) < (m : Int) := by omega
  have a0 : (0 : Int) ≤ (a : Int) := Int.natCast_nonneg _
  have a1 : (a : Int) < 4 * (bn : Int) := by omega
  have n9 : (bn : Int) ≤ 4096 := by omega
  have n0 : (0 : Int) ≤ (bn : Int) := Int.natCast_nonneg _
  have X := Lib.hid (And.intro hbk (And.intro hr (And.intro hm (And.intro b1' hplen))))
  clear hbk hr hm b1 b1' b3 hbl ca hbs e1 hplen h
  go_enter Try.func10, Try.ntmps10
  go_wp2_with fail
  refine hc.mono ?_
  rintro e w1 ⟨rfl, rfl⟩
  go_wp2_with fail
  refine hof.mono ?_
  rintro e w2 ⟨v, rfl, R2, F2⟩
  obtain ⟨A2, c2, rfl, hrd2⟩ := rdC_of R2
  rw [X.out.2.2.2.2] at R2 ⊢
  have hbk2 := F2.blk X.out.1 (fun h => h)
  have k2 : w2.cell? ⟨g, 1, none⟩ = some (.slice (some ad) m c) := hbk2.cell 1
  have ca2 := (World.cell?_of_block (F2.block _ (World.block_lt_of_cell? _ _ ca') (fun h => h))).trans ca'
  have hn4 : (ofL bs).length = 4 * bn := X.out.2.2.2.2
  obtain ⟨a2, rfl, ⟨cs2, hb2⟩, hca2⟩ := hrd2 a (by omega)
  have hlc2 : 4 * bn ≤ c2 := by
    obtain ⟨_, _, e, hle, -⟩ := own_is (show w2.ownsRow w1.heap.size 53 1 (.slice (some a2) (4 * bn) c2) (4 * bn) ((ofL bs).map cx) by have := R2; unfold RowC at this; rw [hn4] at this; exact this)
    injection e with _ _ e3
    omega
  have HR2 := Lib.hid R2
  have HN4 := Lib.hid hn4
  have HF2 := Lib.hid F2
  have l1 : (a : Int) + 1 ≤ (c2 : Int) := by omega
  have hbl2 := hb2.lt
  clear R2 hrd2 hbk2 hn4 F2 hof hc
  go_wp2_with fail
  obtain ⟨p, hp⟩ : ∃ p, (ofL bs).getD a (0, 0) = p := ⟨_, rfl⟩
  rw [hp] at hca2
  have hp4 : Four p := by rw [← hp]; exact ofL_four bs _ (mem_getD (by rw [HN4.out]; exact ha))
  obtain ⟨p', hp'⟩ : ∃ p', turnp (qn q) p = p' := ⟨_, rfl⟩
  have hp4' : Four p' := by rw [← hp']; exact turn_four _ hp4
  have htu := turn_ok w2 (some (a2.add a)) 1 1 [p] q rfl (by omega) (fun j hj => by
    have hj0 : j = 0 := by simpa using hj
    subst hj0
    exact ⟨_, rfl, ⟨cs2, by rw [block_add]; exact hb2⟩, hca2⟩) (fun x hx => by
    have : x = p := by simpa using hx
    rw [this]; exact hp4)
  rw [show [p].map (turnp (qn q)) = [p'] by simp [hp']] at htu
  refine htu.mono ?_
  rintro e w3 ⟨v, rfl, R3, F3⟩
  obtain ⟨A3, c3, rfl, hrd3⟩ := rdC_of R3
  obtain ⟨a3, rfl, -, hca3⟩ := hrd3 0 (by simp)
  have hca3' : w3.cell? a3 = some (.complex .f64 (FI p'.1) (FI p'.2)) := hca3
  have HP := Lib.hid (And.intro hp (And.intro hp' hp4'))
  have hF23 := Lib.hid F3
  clear htu R3 hrd3 hca3 hp hp' hp4 hp4' F3
  go_wp2_with fail
  go_loopw [11, 61] (fun vt vi wr => ∃ j : Nat, vi = .int .i64 j ∧ j ≤ 1 ∧ (j = 1 → vt = .complex .f64 (FI p'.1) (FI p'.2)) ∧ wr = w3) (fun _ vi _ => 1 - (intOf vi).toNat)
  case atStart => exact ⟨0, rfl, by omega, by omega, rfl⟩
  case round =>
    obtain ⟨j, rfl, hj, hv, rfl⟩ := hrel
    by_cases hj0 : j = 0
    · subst hj0
      clear hv
      go_wp2_with fail
      go_roundw
      case rel => exact ⟨1, rfl, by omega, fun _ => rfl, by first | rfl | trivial⟩
      case measure => simp [intOf]
    · obtain rfl : j = 1 := by omega
      obtain rfl := hv rfl
      clear hv hj0
      have F4 := HF2.out.thenN hF23.out
      have R4 : RowC wr w1.heap.size (.slice (some a2) (4 * bn) c2) (ofL bs) := own_frm HR2.out hF23.out (fun _ _ _ h => h)
      obtain ⟨a2', ea, ⟨cs4, hb4⟩, hc4, hz4, R5, hB5⟩ := R4.put HN4.out (j := a) (by omega) p'
      injection ea with ea
      subst ea
      have hl4 := hb4.lt
      have hne := near_is p'.1 p'.2 wr (by have := HP.out.2.2; unfold Four at this; omega) (by have := HP.out.2.2; unfold Four at this; omega)
      have e3 := nearp_four HP.out.2.2
      rw [show sg p'.1 = p'.1 from congrArg Prod.fst e3, show sg p'.2 = p'.2 from congrArg Prod.snd e3] at hne
      have F5 : Frm No w1 (wr.setCell (a2.add a) (cx p')) := F4.set (.inr (by rw [block_add]; exact hB5)) _
      have R5' : RowC (wr.setCell (a2.add a) (cx p')) w1.heap.size (.slice (some a2) (4 * bn) c2) (spPts bs a q) := by unfold spPts; rw [HP.out.1, HP.out.2.1]; exact R5
      have HR5 := Lib.hid (And.intro R5' F5)
      have hslen : (spPts bs a q).length = 4 * bn := by rw [spPts_len, X.out.2.2.2.1]
      have hok := spPts_ok bs a q (by rw [X.out.2.2.2.1]; exact ha)
      have hsml := sml_of (spPts_four bs a q (by rw [X.out.2.2.2.1]; exact ha))
      have hbk5 := back_ok (wr.setCell (a2.add a) (cx p')) (some a2) (4 * bn) c2 (spPts bs a q) hslen (by omega) (by
        obtain ⟨A6, c6, e6, h6⟩ := rdC_of R5'
        injection e6 with e61
        rw [e61]; exact h6) hsml
      rw [if_pos hok] at hbk5
      have HB5 := Lib.hid hbk5
      clear hok hsml hslen R5 R5' F5 hbk5 e3 R4 F4 hb4
      have ai : (a : Int) < 4 * (bn : Int) := a1
      go_wp2_with fail
      refine hne.mono ?_
      rintro e w6 ⟨rfl, rfl⟩
      have hst := store_cx
      go_wp2_with fail
      clear hst
      refine HB5.out.mono ?_
      rintro e w7 ⟨v7, rfl, R7, F7⟩
      obtain ⟨A7, c7, rfl, -⟩ := rdB_of R7
      obtain ⟨sp, hsp⟩ : ∃ sp, spoilB (L.getD i []) a q = sp := ⟨_, rfl⟩
      have F17 := HR5.out.2.thenN F7
      have hb7 := F17.blk X.out.1 (fun h => h)
      have k7 : w7.cell? ⟨g, 1, none⟩ = some (.slice (some ad) m c) := hb7.cell 1
      have hr7 := X.out.2.1.frmN F17
      have hIB : IsB w7 ⟨A7, (spoilB bs a q).length, c7⟩ (spoilB bs a q) := by
        have hR7 : RowB w7 _ (.slice A7 (spoilB bs a q).length c7) (spoilB bs a q) := R7
        obtain ⟨A8, c8, e8, hc8, -⟩ := own_is hR7
        injection e8 with _ _ e83
        exact ⟨rfl, by show (spoilB bs a q).length ≤ c7; omega, (Bys.of_own hR7).1⟩
      obtain ⟨ad', ea, ⟨cs7, hb7'⟩, hc7, hz7, hr8, G8⟩ := hr7.put X.out.2.2.1 (j := i) hi ⟨A7, (spoilB bs a q).length, c7⟩ (spoilB bs a q) hIB
      injection ea with ea
      subst ea
      have hgl7 := hb7.lt
      have hr8' : RowS (w7.setCell (ad.add i) (.slice A7 (outB (spPts bs a q)).length c7)) B (.slice (some ad) m c) k (S.set i ⟨A7, (spoilB bs a q).length, c7⟩) (L.set i (spoilB bs a q)) := hr8
      have G8' : Frm (fun x => k = some x) w7 (w7.setCell (ad.add i) (.slice A7 (outB (spPts bs a q)).length c7)) := G8
      have hgk : ¬ k = some g := fun e => by
        obtain ⟨_, cs, hx⟩ := hr7.blk e
        exact Blk.ne hx hb7 (by decide) rfl
      have hfin : Blk (w7.setCell (ad.add i) (.slice A7 (outB (spPts bs a q)).length c7)) g #[.bool true, .slice (some ad) m c, .int .i64 se, .int .i64 lo] 48 := G8'.blk hb7 hgk
      have hgl8 := hb7'.lt
      have DONE := Lib.hid (And.intro hr8' (And.intro ((F17.mono (fun _ h => h.elim)).then G8' (fun x hx => .inl hx)) hfin))
      clear hr8 hr8' G8 G8' hfin hgk hIB hr7 hb7 hb7' R7
      go_wp2_with fail
      go_ret
      refine ⟨rfl, ⟨by rw [List.length_set, X.out.2.2.1]; omega, _, _, DONE.out.2.2, DONE.out.1⟩, DONE.out.2.1⟩
set_option maxRecDepth 100000 in
set_option maxHeartbeats 4000000 in
theorem spoil_far (w : World) (B g : Nat) (k : Option Nat) (L : List (List Nat)) (se lo : Int) (i : Nat) (a q : Int) (h : IsW w B g k L se lo) (hF : Fits L) (hi : i < L.length) (ha : a < 0 ∨ 4 * ((L.getD i []).length : Int) ≤ a) : Calls Try.prog 10 #[.pointer (some ⟨g, 0, none⟩), .int .i64 (i : Int), .int .i64 a, .int .i64 q] w fun e w' =>
    e = .returned (.int .i64 1) ∧ Frm No w w' := by
  have hc := ask_any w B g k L se lo (i : Int) h
  have e1 : askI L (i : Int) = 0 := if_pos ⟨by omega, by omega⟩
  rw [e1] at hc
  obtain ⟨A, c, S, hbk, hlc, hr⟩ := h.cells
  obtain ⟨f1, f2⟩ := fits_all hF hi
  obtain ⟨ad, rfl, ca, hB⟩ := hr.at_ hi
  obtain ⟨⟨bA, bn, bc⟩, hbl⟩ : ∃ b, S.getD i bl0 = b := ⟨_, rfl⟩
  rw [hbl] at ca hB
  have ca' : w.cell? (ad.add i) = some (.slice bA bn bc) := ca
  obtain ⟨b1, b2, b3⟩ := hB
  obtain ⟨bs, hbs⟩ : ∃ bs, L.getD i [] = bs := ⟨_, rfl⟩
  rw [hbs] at f1 f2 b1 b3 ha
  have b1' : bs.length = bn := b1.symm
  have hof := of_bin w bA bn bc bs b3.1 b1' (by omega) f2
  obtain ⟨m, hm⟩ : ∃ m, L.length = m := ⟨_, rfl⟩
  rw [hm] at hi hbk
  have k1 : w.cell? ⟨g, 1, none⟩ = some (.slice (some ad) m c) := hbk.cell 1
  have i0 : (0 : Int) ≤ (i : Int) := Int.natCast_nonneg _
  have i1 : (i : Int) < (m : Int) := by omega
  have n9 : (bn : Int) ≤ 4096 := by omega
  have n0 : (0 : Int) ≤ (bn : Int) := Int.natCast_nonneg _
  rw [b1'] at ha
  have X := Lib.hid hbk
  clear hbk hr hm b1 b1' b3 hbl ca hbs e1 h
  by_cases ha0 : a < 0
  · go_enter Try.func10, Try.ntmps10
    go_wp2_with fail
    refine hc.mono ?_
    rintro e w1 ⟨rfl, rfl⟩
    go_wp2_with fail
    refine hof.mono ?_
    rintro e w2 ⟨v, rfl, R2, F2⟩
    obtain ⟨A2, c2, rfl, hrd2⟩ := rdC_of R2
    clear ha R2 hrd2
    go_wp2_with fail
    go_ret
    exact ⟨rfl, F2⟩
  · have ha1 : 4 * (bn : Int) ≤ a := by omega
    go_enter Try.func10, Try.ntmps10
    go_wp2_with fail
    refine hc.mono ?_
    rintro e w1 ⟨rfl, rfl⟩
    go_wp2_with fail
    refine hof.mono ?_
    rintro e w2 ⟨v, rfl, R2, F2⟩
    obtain ⟨A2, c2, rfl, hrd2⟩ := rdC_of R2
    have k2 : w2.cell? ⟨g, 1, none⟩ = some (.slice (some ad) m c) := (F2.blk X.out (fun h => h)).cell 1
    have ca2 := (World.cell?_of_block (F2.block _ (World.block_lt_of_cell? _ _ ca') (fun h => h))).trans ca'
    clear ha R2 hrd2
    go_wp2_with fail
    go_ret
    exact ⟨rfl, F2⟩
def spE (L : List (List Nat)) (i a : Int) : Int := if askI L i = 0 ∧ 0 ≤ a ∧ a < 4 * ((L.getD i.toNat []).length : Int) then 0 else 1
theorem spoil_any (w : World) (B g : Nat) (k : Option Nat) (L : List (List Nat)) (se lo i a q : Int) (h : IsW w B g k L se lo) (hF : Fits L) : Calls Try.prog 10 #[.pointer (some ⟨g, 0, none⟩), .int .i64 i, .int .i64 a, .int .i64 q] w fun e w' =>
    e = .returned (.int .i64 (spE L i a)) ∧ IsW w' B g k (if spE L i a = 0 then L.set i.toNat (spoilB (L.getD i.toNat []) a.toNat q) else L) se lo ∧ Frm (fun x => k = some x) w w' := by
  by_cases hin : 0 ≤ i ∧ i < L.length
  · obtain ⟨h0, h1⟩ := hin
    obtain ⟨j, rfl⟩ := Int.eq_ofNat_of_zero_le h0
    have e1 : askI L (j : Int) = 0 := if_pos ⟨h0, h1⟩
    rw [Int.toNat_natCast]
    by_cases ha : 0 ≤ a ∧ a < 4 * ((L.getD j []).length : Int)
    · have hE : spE L (j : Int) a = 0 := if_pos ⟨e1, by rw [Int.toNat_natCast]; exact ha⟩
      rw [hE, if_pos rfl]
      obtain ⟨a0, a1⟩ := ha
      obtain ⟨b, rfl⟩ := Int.eq_ofNat_of_zero_le a0
      rw [Int.toNat_natCast]
      exact spoil_core w B g k L se lo j b q h hF (by omega) (by omega)
    · have hE : spE L (j : Int) a = 1 := if_neg (fun e => ha (by have := e.2; rwa [Int.toNat_natCast] at this))
      rw [hE, if_neg (by decide)]
      refine (spoil_far w B g k L se lo j a q h hF (by omega) (by omega)).mono ?_
      rintro e w' ⟨he, f⟩
      exact ⟨he, h.frmN f, f.mono fun _ h => h.elim⟩
  · have e1 : askI L i = 1 := if_neg hin
    have hE : spE L i a = 1 := if_neg (fun e => by rw [e1] at e; cases e.1)
    rw [hE, if_neg (by decide)]
    have hc := ask_any w B g k L se lo i h
    rw [e1] at hc
    clear hin e1 hE
    go_enter Try.func10, Try.ntmps10
    go_wp2_with fail
    refine hc.mono ?_
    rintro e w1 ⟨rfl, rfl⟩
    go_wp2_with fail
    go_ret
    exact ⟨rfl, h, Frm.refl _ _⟩
end Go.Proofs.Ytbhkhabkkghapaa.A
