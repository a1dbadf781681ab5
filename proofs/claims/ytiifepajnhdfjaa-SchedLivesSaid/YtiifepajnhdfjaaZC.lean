/- The document's rest. -/
import Derived.Test.YtiifepajnhdfjaaZB
import Derived.Test.YtiifepajnhdfjaaV
import Derived.BigRegion
namespace Go.Proofs.Ytiifepajnhdfjaa.A
open Go.RowKit Go.Proofs.Ytiifepajnhdfjaa.K
set_option linter.unusedVariables false
set_option linter.unusedSimpArgs false

/-- Users are told apart by their numbers. -/
def Dis (U : List US) : Prop := ∀ i, i < U.length → fi U (U.getD i u0).id = i
theorem want_of {U : List US} {W : List Wn} {n : Nat} {L G : List Int} (hW : WOk U W n) (hD : Dis U) (hLG : ∀ p, L.getD p 0 + G.getD p 0 = (leftTo U W n).getD p 0) (hG : ∀ p, 0 ≤ G.getD p 0) {i : Nat} (hi : i < U.length) :
    (0 < L.getD i 0 → ∃ k, k < n ∧ wi W (outTo W U G n) (U.getD i u0).id = k ∧ fi U (W.getD k (0, 0)).1 = i ∧ (W.getD k (0, 0)).2 = L.getD i 0 + G.getD i 0) ∧
    (¬ 0 < L.getD i 0 → ¬ wi W (outTo W U G n) (U.getD i u0).id < n) := by
  obtain ⟨l1, l2⟩ := left_at hW n (Nat.le_refl _)
  have key : ∀ k, k < n → (wiB W (outTo W U G n) (U.getD i u0).id k = true ↔ ((W.getD k (0, 0)).1 = (U.getD i u0).id ∧ 0 < L.getD i 0)) := fun k hk => by
    unfold wiB
    rw [outTo_at W U G n k hk, Bool.and_eq_true, beq_iff_eq, decide_eq_true_eq]
    show (W.getD k (0, 0)).1 = _ ∧ G.getD (fi U (W.getD k (0, 0)).1) 0 < _ ↔ _
    refine and_congr_right fun e => ?_
    have hf : fi U (W.getD k (0, 0)).1 = i := by rw [e]; exact hD i hi
    have h1 := l1 k hk
    have h2 := hLG i
    rw [hf] at h1 ⊢
    omega
  refine ⟨fun hp => ?_, fun hp hlt => ?_⟩
  · have hne : ∃ j, j < n ∧ fi U (W.getD j (0, 0)).1 = i := by
      by_cases h : ∃ j, j < n ∧ fi U (W.getD j (0, 0)).1 = i
      · exact h
      · have h1 := l2 i (fun j hj e => h ⟨j, hj, e⟩)
        have h2 := hLG i
        have h3 := hG i
        omega
    obtain ⟨j, hj, hfj⟩ := hne
    have hidj : (W.getD j (0, 0)).1 = (U.getD i u0).id := by
      have := fi_at (U := U) (x := (W.getD j (0, 0)).1) (by rw [hfj]; exact hi)
      rw [hfj] at this
      exact this.symm
    have hyes := (key j hj).2 ⟨hidj, hp⟩
    have hle : wi W (outTo W U G n) (U.getD i u0).id ≤ j := by
      by_cases hc : j < wi W (outTo W U G n) (U.getD i u0).id
      · have := wi_not hc
        rw [hyes] at this
        cases this
      · omega
    have hat := wi_at (W := W) (O := outTo W U G n) (x := (U.getD i u0).id) (by rw [hW.len]; omega)
    have hk := (key _ (by omega)).1 hat
    have hfk : fi U (W.getD (wi W (outTo W U G n) (U.getD i u0).id) (0, 0)).1 = i := by rw [hk.1]; exact hD i hi
    refine ⟨_, by omega, rfl, hfk, ?_⟩
    have h1 := l1 (wi W (outTo W U G n) (U.getD i u0).id) (by omega)
    have h2 := hLG i
    rw [hfk] at h1
    omega
  · have hat := wi_at (W := W) (O := outTo W U G n) (x := (U.getD i u0).id) (by rw [hW.len]; omega)
    exact hp ((key _ (by omega)).1 hat).2
theorem wiV_no {W O : List Wn} {x : Int} {n : Nat} (hn : W.length = n) (h : ¬ wi W O x < n) : wiV W O x = -1 := by unfold wiV; rw [if_neg (by omega)]
theorem wiV_yes {W O : List Wn} {x : Int} {n k : Nat} (hn : W.length = n) (h : wi W O x = k) (hk : k < n) : wiV W O x = (k : Int) := by unfold wiV; rw [if_pos (by omega), h]

theorem IsR.put {w : World} {B g : Nat} {U : List US} (h : IsR w B g U) {i : Nat} (hi : i < U.length) (v : Int) :
    ∃ ad c, w.cell? ⟨g, 0, none⟩ = some (.slice (some ad) U.length c) ∧ RdR w (some ad) U ∧ w.frozen? ⟨(ad.add (i * 3)).block, (ad.add (i * 3)).off + 2, none⟩ = false ∧
      IsR (w.setCell ⟨(ad.add (i * 3)).block, (ad.add (i * 3)).off + 2, none⟩ (.int .i64 v)) B g (U.set i { U.getD i u0 with sv := v }) ∧
      Frm (RU w B) w (w.setCell ⟨(ad.add (i * 3)).block, (ad.add (i * 3)).off + 2, none⟩ (.int .i64 v)) := by
  obtain ⟨h16, vv, hb, ho⟩ := h
  obtain ⟨A, c, rfl, hr⟩ := rdR_of ho
  obtain ⟨gk, rfl, hB, ⟨cs, hk⟩, hz, hp⟩ := own_putN ho (j := i * 3 + 2) (by omega) (.int .i64 v)
  have ea : (⟨((⟨gk, 0, none⟩ : Addr).add (i * 3)).block, ((⟨gk, 0, none⟩ : Addr).add (i * 3)).off + 2, none⟩ : Addr) = ⟨gk, i * 3 + 2, none⟩ := by
    unfold Addr.add; by_cases h : i * 3 = 0 <;> simp [h]
  refine ⟨_, c, hb.cell 0, hr, by rw [ea]; exact hz, ?_, ?_⟩
  · rw [ea]
    refine ⟨by rw [List.length_set]; exact h16, _, hb.other (Blk.ne hb hk (by decide)) _, ?_⟩
    unfold RowR
    rw [List.length_set, ← uc_set U i v hi]
    exact hp
  · rw [ea]
    exact (Frm.refl _ w).set (.inl ⟨hB, cs, hk⟩) _
theorem RU.back {w wr : World} {B k : Nat} (h : Frm (RU w B) w wr) (hk : RU wr B k) : RU w B k ∨ w.heap.size ≤ k := by
  by_cases h1 : k < w.heap.size
  · by_cases h2 : RU w B k
    · exact .inl h2
    · left
      obtain ⟨hB, cs, hb⟩ := hk
      exact ⟨hB, cs, (h.block k h1 h2).symm.trans hb⟩
  · exact .inr (by omega)
theorem Frm.thenR {w wr w2 : World} {B : Nat} (h : Frm (RU w B) w wr) (k : Frm (RU wr B) wr w2) : Frm (RU w B) w w2 := h.then k fun _ hi => RU.back h hi
theorem Frm.ru {w w' : World} {B : Nat} (h : Frm No w w') : Frm (RU w B) w w' := h.mono fun _ h => h.elim
theorem restTo_neg {U : List US} {L : List Int} {q : Int} (h : q < 0) : ∀ i, restTo U L q i = U
  | 0 => rfl
  | i + 1 => by unfold restTo; rw [if_neg (by omega)]; exact restTo_neg h i
theorem set_same {U : List US} {j : Nat} {u : US} (hj : j < U.length) (h : U.getD j u0 = u) : U.set j u = U := by
  rw [List.getD_eq_getElem?_getD, List.getElem?_eq_getElem hj] at h
  have h2 : U[j] = u := h
  rw [← h2]
  exact List.set_getElem_self hj

set_option maxRecDepth 100000 in
set_option maxHeartbeats 8000000 in
theorem rrest_ok (w : World) (B g : Nat) (U : List US) (L : List Int) (A A2 : Option Addr) (n c c2 : Nat) (W O : List Wn) (h : IsR w B g U) (hf : Fit U) (hl : L.length = U.length) (hpL : ∀ j, 0 ≤ L.getD j 0)
    (hW : ∀ w', Frm (RU w B) w w' → RdW w' A W ∧ RdW w' A2 O) (hn : W.length = n) (hn' : O.length = n) (hn2 : n ≤ 1000) (hwant : ∀ i, i < U.length → ∃ v, wiV W O (U.getD i u0).id = v ∧ (v < 0 ↔ ¬ 0 < L.getD i 0)) :
    Calls Try.prog 25 #[.pointer (some ⟨g, 0, none⟩), .slice A n c, .slice A2 n c2] w fun e w' => e = .returned (.tuple #[]) ∧ IsR w' B g (restTo U L (leastTo U L U.length) U.length) ∧ Frm (RU w B) w w' := by
  have HS := Lib.hid h
  have HFT := Lib.hid hf
  obtain ⟨h16, v, hb, ho⟩ := h
  obtain ⟨A1, c1, rfl, hr⟩ := rdR_of ho
  obtain ⟨m, hm⟩ : ∃ m, U.length = m := ⟨_, rfl⟩
  rw [hm] at hb h16 hl hwant
  rw [hm]
  have HM := Lib.hid hm
  have HR := Lib.hid hr
  have HB := Lib.hid hb
  have HLL := Lib.hid hl
  have HLE := Lib.hid (leastTo_le (L := L) hf)
  have HPL := Lib.hid hpL
  have HW := Lib.hid hW
  have HNN := Lib.hid (And.intro hn hn')
  have HWT := Lib.hid hwant
  have n9 : (n : Int) ≤ 1000 := by omega
  clear hb ho hr hm hf hl hpL hW hn hn' hwant
  go_enter Try.func25, Try.ntmps25
  go_wp2_with fail
  go_loopw [6, 7] (fun vb vi wr => ∃ i : Nat, vi = .int .i64 i ∧ i ≤ m ∧ vb = .int .i64 (leastTo U L i) ∧ Frm No w wr) (fun _ vi _ => m - (intOf vi).toNat)
  case atStart => exact ⟨0, rfl, by omega, rfl, Frm.refl _ _⟩
  case round =>
    obtain ⟨i, rfl, hi, rfl, F⟩ := hrel
    have i0 : (0 : Int) ≤ (i : Int) := Int.natCast_nonneg _
    have hb1 := F.blk HB.out (fun h => h)
    have k1 : wr.cell? ⟨g, 0, none⟩ = some (.slice A1 m c1) := hb1.cell 0
    by_cases hlt : i < m
    · have i1 : (i : Int) < (m : Int) := by omega
      have hstep : leastTo U L (i + 1) = if 0 < L.getD i 0 ∧ (leastTo U L i < 0 ∨ (U.getD i u0).sv / (U.getD i u0).wt < leastTo U L i) then (U.getD i u0).sv / (U.getD i u0).wt else leastTo U L i := rfl
      obtain ⟨ad, rfl, hbk, ka, kb, kc⟩ := HR.out i (by rw [HM.out]; exact hlt)
      have ka := (World.cell?_of_block (F.block _ (World.block_lt_of_cell? w _ ka) (fun h => h))).trans ka
      have kb := (World.cell?_of_block (F.block _ (World.block_lt_of_cell? w _ kb) (fun h => h))).trans kb
      have kc := (World.cell?_of_block (F.block _ (World.block_lt_of_cell? w _ kc) (fun h => h))).trans kc
      have hfi := HFT.out _ (memU (U := U) (i := i) (by rw [HM.out]; exact hlt))
      obtain ⟨wv, hwv, hwp⟩ := HWT.out i hlt
      obtain ⟨⟨xi, xw, xs⟩, hx⟩ : ∃ u, U.getD i u0 = u := ⟨_, rfl⟩
      rw [hx] at ka kb kc hfi hstep hwv
      simp only at ka kb kc hfi hstep hwv
      obtain ⟨l, hle⟩ : ∃ l, L.getD i 0 = l := ⟨_, rfl⟩
      rw [hle] at hstep hwp
      obtain ⟨w1, w2, w3, w4⟩ := hfi
      have hq0 := Int.ediv_nonneg w3 (show 0 ≤ xw by omega)
      have hq1 := Int.ediv_le_self xw w3
      have hdv := tdiv_is (b := xw) w3
      have hwz : (xw == 0) = false := beq_eq_false_iff_ne.2 (by omega)
      obtain ⟨q, hq⟩ : ∃ q, xs / xw = q := ⟨_, rfl⟩
      rw [hq] at hq0 hq1 hdv hstep
      obtain ⟨o1, o2⟩ := HLE.out i (by rw [HM.out]; omega)
      obtain ⟨b, hb⟩ : ∃ b, leastTo U L i = b := ⟨_, rfl⟩
      rw [hb] at hstep o1 o2 ⊢
      have HWV := Lib.hid hwv
      have FX := Lib.hid F
      have HDV := Lib.hid hdv
      clear hx hle hb F hbk hq hwv hb1 hdv
      go_wp2_with fail
      have pq : IntKind.i64.wrap q = q := IntWalk.i64_in _ ⟨by omega, by omega⟩
      have hdv := HDV.out
      go_quiet (fail)
      clear hdv pq
      go_wp2_with fail
      refine (rwant_any _ A A2 n c c2 W O xi (by exact (HW.out _ (Frm.ru (FX.out.drewN _))).1) (by exact (HW.out _ (Frm.ru (FX.out.drewN _))).2) HNN.out.1 HNN.out.2 hn2).mono ?_
      rintro e w5 ⟨rfl, m5, hm5⟩
      have F5 : Frm No w w5 := by rw [hm5]; exact (FX.out.drewN _).drewN _
      clear hm5
      rw [HWV.out]
      by_cases hpos : 0 < l
      · have hwn : ¬ wv < 0 := by omega
        clear hwp
        by_cases hbn : b < 0
        · rw [if_pos ⟨hpos, .inl hbn⟩] at hstep
          have HST := Lib.hid hstep
          clear hstep
          go_wp2_with fail
          go_roundw
          case rel => exact ⟨i + 1, by go_num, by omega, by rw [HST.out], F5⟩
          case measure => simp [intOf]; omega
        · by_cases hqb : q < b
          · rw [if_pos ⟨hpos, .inr hqb⟩] at hstep
            have HST := Lib.hid hstep
            clear hstep
            go_wp2_with fail
            go_roundw
            case rel => exact ⟨i + 1, by go_num, by omega, by rw [HST.out], F5⟩
            case measure => simp [intOf]; omega
          · rw [if_neg (by omega)] at hstep
            have HST := Lib.hid hstep
            clear hstep
            go_wp2_with fail
            go_roundw
            case rel => exact ⟨i + 1, by go_num, by omega, by rw [HST.out], F5⟩
            case measure => simp [intOf]; omega
      · have hwn : wv < 0 := by omega
        rw [if_neg (by omega)] at hstep
        have HST := Lib.hid hstep
        clear hstep hwp
        go_wp2_with fail
        go_roundw
        case rel => exact ⟨i + 1, by go_num, by omega, by rw [HST.out], F5⟩
        case measure => simp [intOf]; omega
    · have i1 : ¬ (i : Int) < (m : Int) := by omega
      have him : i = m := by omega
      subst him
      obtain ⟨o1, o2⟩ := HLE.out i (by rw [HM.out]; omega)
      obtain ⟨q, hq⟩ : ∃ q, leastTo U L i = q := ⟨_, rfl⟩
      rw [hq] at o1 o2 ⊢
      have HQ := Lib.hid hq
      have hS0 := HS.out.frmN F
      have FS := Frm.ru (B := B) F
      clear hb1 hq F
      by_cases hq0 : 0 ≤ q
      · obtain ⟨wo, rfl⟩ : ∃ wo, wo = wr := ⟨_, rfl⟩
        go_wp2_with fail
        go_loopw [9] (fun vj wr => ∃ j : Nat, vj = .int .i64 j ∧ j ≤ i ∧ IsR wr B g (restTo U L q j) ∧ Frm (RU w B) w wr) (fun vj _ => i - (intOf vj).toNat)
        case atStart => exact ⟨0, rfl, by omega, hS0, FS⟩
        case round =>
          clear hS0 FS k1
          obtain ⟨j, rfl, hj, hS, F⟩ := hrel
          have j0 : (0 : Int) ≤ (j : Int) := Int.natCast_nonneg _
          have hrl := restTo_len U L q j
          rw [HM.out] at hrl
          by_cases hlt : j < i
          · have j1 : (j : Int) < (i : Int) := by omega
            have hstep : restTo U L q (j + 1) = if L.getD j 0 = 0 ∧ 0 ≤ q then (restTo U L q j).set j (lift q (U.getD j u0)) else restTo U L q j := rfl
            have hpl := HPL.out j
            have hat := restTo_at U L q j j (Nat.le_refl _)
            have hfi := HFT.out _ (memU (U := U) (i := j) (by rw [HM.out]; exact hlt))
            obtain ⟨wv, hwv, hwp⟩ := HWT.out j hlt
            obtain ⟨l, hle⟩ : ∃ l, L.getD j 0 = l := ⟨_, rfl⟩
            rw [hle] at hstep hpl hwp
            obtain ⟨ad, cr, kk, rd, kz, kS, kF⟩ := hS.put (i := j) (by rw [hrl]; exact hlt) ((U.getD j u0).wt * q)
            obtain ⟨ad', e, -, ki, kw, ks⟩ := rd j (by rw [hrl]; exact hlt)
            injection e with e
            subst e
            rw [hat] at ki kw ks kS
            obtain ⟨⟨xi, xw, xs⟩, hx⟩ : ∃ u, U.getD j u0 = u := ⟨_, rfl⟩
            have hsm := set_same (U := restTo U L q j) (j := j) (by rw [hrl]; exact hlt) hat
            rw [hx] at ki kw ks kS kF hfi hstep hwv hsm
            simp only at ki kw ks kS kF hfi hwv
            rw [hrl] at kk
            have hlift : lift q ⟨xi, xw, xs⟩ = ⟨xi, xw, if xs < xw * q then xw * q else xs⟩ := rfl
            rw [hlift] at hstep
            obtain ⟨w1, w2, w3, w4⟩ := hfi
            have hp := prod_le hq0 o2 w1 w2
            rw [Int.mul_comm] at hp
            obtain ⟨p1, p2⟩ := hp
            have pw : IntKind.i64.wrap (xw * q) = xw * q := IntWalk.i64_in _ ⟨by omega, by omega⟩
            have FX := Lib.hid F
            have HSX := Lib.hid hS
            have HWV := Lib.hid hwv
            have hwc := fun k => rwant_any (wr.drewN k) A A2 n c c2 W O xi (HW.out _ (Frm.thenR FX.out (Frm.ru ((Frm.refl No _).drewN _)))).1 (HW.out _ (Frm.thenR FX.out (Frm.ru ((Frm.refl No _).drewN _)))).2 HNN.out.1 HNN.out.2 hn2
            rw [HWV.out] at hwc
            have HWC := Lib.hid hwc
            have hWB := (Lib.hid (And.intro hq0 hat))
            clear hwc hwv hx hle hat rd F hS
            by_cases hpos : 0 < l
            · have hwn : decide (wv < 0) = false := decide_eq_false (by omega)
              rw [if_neg (by omega)] at hstep
              have HST := Lib.hid hstep
              clear hstep hlift hsm kS kF kz hwp
              go_wp2_with fail
              go_quiet ((go_at_call 26; exact Calls.quiet_of (HWC.out _)))
              go_wp2_with fail
              go_roundw
              case rel => exact ⟨j + 1, by go_num, by omega, by rw [HST.out]; exact HSX.out.frmN ((Frm.refl No _).drewN _), Frm.thenR FX.out (Frm.ru ((Frm.refl No _).drewN _))⟩
              case measure => simp [intOf]; omega
            · have hwn : decide (wv < 0) = true := decide_eq_true (by omega)
              rw [if_pos (by omega)] at hstep
              by_cases hlt2 : xs < xw * q
              · rw [if_pos hlt2] at hstep
                rw [← hstep] at kS
                have d1 : decide (xs < xw * q) = true := decide_eq_true hlt2
                have DONE := Lib.hid (And.intro kS kF)
                clear hstep hlift hsm kS kF hwp
                go_wp2_with fail
                go_quiet ((go_at_call 26; exact Calls.quiet_of (HWC.out _)))
                go_wp2_with fail
                have pw2 := pw
                go_region
                go_wp2_with fail
                go_roundw
                case rel => exact ⟨j + 1, by go_num, by omega, DONE.out.1, Frm.thenR FX.out ⟨DONE.out.2.os, DONE.out.2.tape, DONE.out.2.output, DONE.out.2.size, DONE.out.2.block⟩⟩
                case measure => simp [intOf]; omega
              · rw [if_neg hlt2, hsm] at hstep
                have d1 : decide (xs < xw * q) = false := decide_eq_false hlt2
                have HST := Lib.hid hstep
                clear hstep hlift hsm kS kF kz hwp
                go_wp2_with fail
                go_quiet ((go_at_call 26; exact Calls.quiet_of (HWC.out _)))
                go_wp2_with fail
                go_roundw
                case rel => exact ⟨j + 1, by go_num, by omega, by rw [HST.out]; exact HSX.out.frmN ((Frm.refl No _).drewN _), Frm.thenR FX.out (Frm.ru ((Frm.refl No _).drewN _))⟩
                case measure => simp [intOf]; omega
          · have j1 : ¬ (j : Int) < (i : Int) := by omega
            have hji : j = i := by omega
            subst hji
            obtain ⟨_, vv, hbb, hoo⟩ := id hS
            obtain ⟨A9, c9, rfl, -⟩ := rdR_of hoo
            have kk : wr.cell? ⟨g, 0, none⟩ = some (.slice A9 (restTo U L q j).length c9) := hbb.cell 0
            rw [hrl] at kk
            clear hbb hoo
            go_wp2_with fail
            go_end0
            exact ⟨rfl, by rw [HQ.out]; exact hS, F⟩
      · have hneg : restTo U L q i = U := restTo_neg (by omega) i
        have HNG := Lib.hid hneg
        clear hneg
        have HSX := Lib.hid (And.intro hS0 FS)
        clear hS0 FS
        obtain ⟨wo, rfl⟩ : ∃ wo, wo = wr := ⟨_, rfl⟩
        go_wp2_with fail
        go_loopw [9] (fun vj wr => vj = .int .i64 (0 : Nat) ∧ wr = wo) (fun vj _ => 0)
        case atStart => exact ⟨rfl, rfl⟩
        case round =>
          obtain ⟨rfl, rfl⟩ := hrel
          by_cases h0 : 0 < i
          · have h1 : (0 : Int) < (i : Int) := by omega
            go_wp2_with fail
            go_end0
            exact ⟨rfl, by rw [HQ.out, HNG.out]; exact HSX.out.1, HSX.out.2⟩
          · obtain rfl : i = 0 := by omega
            go_wp2_with fail
            go_end0
            exact ⟨rfl, by rw [HQ.out, HNG.out]; exact HSX.out.1, HSX.out.2⟩
end Go.Proofs.Ytiifepajnhdfjaa.A
