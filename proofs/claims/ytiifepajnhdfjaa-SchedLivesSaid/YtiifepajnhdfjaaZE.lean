/- The document's Give: its walk. -/
import Derived.Test.YtiifepajnhdfjaaZD
namespace Go.Proofs.Ytiifepajnhdfjaa.A
open Go.RowKit Go.Proofs.Ytiifepajnhdfjaa.K
set_option linter.unusedVariables false
set_option linter.unusedSimpArgs false

set_option maxRecDepth 100000 in
set_option maxHeartbeats 8000000 in
theorem rgive_no (w : World) (B g : Nat) (U : List US) (t : Int) (A : Option Addr) (n c : Nat) (W : List Wn) (E : Int) (h : IsR w B g U) (hW : RdW w A W) (hn : W.length = n) (hn2 : n ≤ 1000) (hE : askE U t W = E) (hE0 : E ≠ 0) :
    Calls Try.prog 14 #[.pointer (some ⟨g, 0, none⟩), .int .i64 t, .slice A n c] w fun e w' => e = .returned (.tuple #[.slice none 0 0, .int .i64 E]) ∧ Frm No w w' := by
  have ha := rask_any w B g U t A n c W h hW hn hn2
  rw [hE] at ha
  have hd : (E != 0) = true := by rw [bne_iff_ne]; exact hE0
  go_enter Try.func14, Try.ntmps14
  go_wp2_with fail
  refine ha.mono ?_
  rintro e w1 ⟨rfl, f1⟩
  go_wp2_with fail
  go_ret2
  exact ⟨rfl, f1⟩
theorem rep_at (m j : Nat) : (List.replicate m (0 : Int)).getD j 0 = 0 := by rw [List.getD_eq_getElem?_getD, List.getElem?_replicate]; split <;> rfl

set_option maxRecDepth 100000 in
set_option maxHeartbeats 16000000 in
theorem rgive_ok (w : World) (B g : Nat) (U : List US) (t : Int) (A : Option Addr) (n c : Nat) (W : List Wn) (R : Int) (h : IsR w B g U) (hWS : ∀ w', Frm (RU w B) w w' → RdW w' A W) (hn : W.length = n) (hn2 : n ≤ 1000) (hE : askE U t W = 0) (hR : Rat U R) (hR0 : 0 ≤ R) (hR2 : R ≤ 1000000000) (hB : B ≤ w.heap.size)
    (hD : Dis U) (E : GS) (hEq : fin ⟨restTo U (leftTo U W n) (leastTo U (leftTo U W n) U.length) U.length, leftTo U W n, List.replicate U.length 0, t⟩ = E) :
    Calls Try.prog 14 #[.pointer (some ⟨g, 0, none⟩), .int .i64 t, .slice A n c] w fun e w' => ∃ v : Value, e = .returned (.tuple #[v, .int .i64 0]) ∧ RowX w' w.heap.size v (outTo W E.U E.G n) ∧ IsR w' B g E.U ∧ Frm (RU w B) w w' := by
  have hW := hWS w (Frm.refl _ _)
  have ha := rask_any w B g U t A n c W h hW hn hn2
  rw [hE] at ha
  obtain ⟨⟨t0, t1⟩, hWO⟩ := ask_zero hE
  rw [hn] at hWO
  have HWS := Lib.hid hWS
  have h16 := h.1
  obtain ⟨m, hm⟩ : ∃ m, U.length = m := ⟨_, rfl⟩
  have HM := Lib.hid hm
  have HEQ := Lib.hid hEq
  have HWO := Lib.hid hWO
  have HD := Lib.hid hD
  have HS := Lib.hid h
  have HN := Lib.hid hn
  have HRA := Lib.hid hR
  obtain ⟨i5, hi5, hy0, hy1, hy2⟩ := info_parts info51
  rw [hm] at h16
  have n9 : (n : Int) ≤ 1000 := by omega
  clear hWS hW hE hEq hWO hD h hn hR hm
  go_enter Try.func14, Try.ntmps14
  go_wp2_with fail
  refine ha.mono ?_
  rintro e w1 ⟨rfl, f1⟩
  go_wp2_with fail
  go_loopw [9, 10] (fun vo vi wr => ∃ j : Nat, vi = .int .i64 j ∧ j ≤ n ∧ RowX wr w.heap.size vo (outTo W U (List.replicate m 0) j) ∧ Frm No w wr) (fun _ vi _ => n - (intOf vi).toNat)
  case atStart => exact ⟨0, rfl, by omega, World.ownsRow_nil _ _ _ _, f1⟩
  case round =>
    clear f1 ha
    obtain ⟨j, rfl, hj, hX, F⟩ := hrel
    have j0 : (0 : Int) ≤ (j : Int) := Int.natCast_nonneg _
    by_cases hlt : j < n
    · have j1 : (j : Int) < (n : Int) := by omega
      obtain ⟨⟨p, q⟩, hp⟩ : ∃ u, W.getD j (0, 0) = u := ⟨_, rfl⟩
      obtain ⟨ad, rfl, k0, k1⟩ := (HWS.out wr (Frm.ru F)).at_ (j := j) (by rw [HN.out]; exact hlt) hp
      have hstep : outTo W U (List.replicate m 0) (j + 1) = outTo W U (List.replicate m 0) j ++ [((W.getD j (0, 0)).1, (List.replicate m (0 : Int)).getD (fi U (W.getD j (0, 0)).1) 0)] := rfl
      rw [rep_at, hp] at hstep
      have hol := outTo_len W U (List.replicate m 0) j
      obtain ⟨R0, hRE⟩ : ∃ R0, outTo W U (List.replicate m 0) j = R0 := ⟨_, rfl⟩
      rw [hRE] at hX hol hstep
      obtain ⟨A5, c5, rfl, -, -⟩ := rdX_of hX
      have hX0 := hX
      unfold RowX at hX0
      rw [hol] at hX0 hX ⊢
      have HL := Lib.hid (And.intro hol (And.intro hstep (And.intro hX F)))
      have hsz := F.size
      clear hol hstep hRE hp hX F
      go_wp2_with (at_builtin; go_must (refine wpList_append_lies _ rfl _ _ 47 rfl w.heap.size 51 i5 _ 2 16 Try.underlying47 hi5 hy0 hy1 hy2 zero_cells (by omega) _ j (R0.flatMap wc) rfl (hX0.alloc _) ⟨wr.heap.size, 0, none⟩ 1 1 [.int .i64 p, .int .i64 0] rfl rfl (World.news_of_block (cs := #[.int .i64 p, .int .i64 0]) (t := 51) (fr := (0, 0)) (heap_alloc_new wr _)) (by simp [Value.oneCell']) (by omega) (by unfold maxLen; omega) (by omega) (by simp; omega) (wr.heap.size + 1) (by simp) ?_; intro gg cap w6 hown6 hgrow6 hat6 hlt6))
      go_roundw
      case rel =>
        obtain ⟨r1, r2⟩ := rowX_push (p := (p, 0)) HL.out.2.2.1 (Nat.le_refl _) HL.out.2.2.2 HL.out.1 hown6 hgrow6
        exact ⟨j + 1, by go_num, by omega, by rw [HL.out.2.1]; exact r1, r2⟩
      case measure => simp [intOf]; omega
    · have j1 : ¬ (j : Int) < (n : Int) := by omega
      obtain rfl : j = n := by omega
      obtain ⟨A9, c9, rfl, -, -⟩ := rdX_of hX
      rw [outTo_len] at hX ⊢
      have hS2 := HS.out.frmN F
      have hll := leftTo_len U W j
      have hrest := rrest_ok wr B g U (leftTo U W j) A A9 j c c9 W (outTo W U (List.replicate m 0) j) hS2 (HRA.out.fit (by omega)) hll (fun p => (left_bd HWO.out p).1)
        (fun w' f => ⟨HWS.out w' ((Frm.ru F).then f (fun x hx => RU.back (Frm.ru F) hx)), (rdX_slice (hX.ru f)).2.2⟩) HN.out (outTo_len _ _ _ _) hn2 (fun i hi => by
          have hwo := want_of HWO.out HD.out (L := leftTo U W j) (G := List.replicate m 0) (fun p => by rw [rep_at]; omega) (fun p => by rw [rep_at]; omega) hi
          by_cases hp : 0 < (leftTo U W j).getD i 0
          · obtain ⟨k, hk, e1, -, -⟩ := hwo.1 hp
            exact ⟨_, wiV_yes HN.out e1 hk, by omega⟩
          · exact ⟨_, wiV_no HN.out (hwo.2 hp), by omega⟩)
      rw [HM.out] at hrest
      have HF := Lib.hid (And.intro F hX)
      clear F hX hS2 hll
      go_wp2_with fail
      refine hrest.mono ?_
      rintro e w4 ⟨rfl, hS4, f4⟩
      obtain ⟨U4, hU4⟩ : ∃ V, restTo U (leftTo U W j) (leastTo U (leftTo U W j) m) m = V := ⟨_, rfl⟩
      have hEf : fin ⟨U4, leftTo U W j, List.replicate m 0, t⟩ = E := by rw [← HEQ.out, HM.out, hU4]
      have hra : Rat U4 R := by rw [← hU4]; exact rest_rat HRA.out (least_rat HRA.out m (by rw [HM.out]; omega)) m (by rw [HM.out]; omega)
      have hid4 : U4.map (·.id) = U.map (·.id) := by rw [← hU4]; exact rest_ids U _ _ m (by rw [HM.out]; omega)
      have hul4 : U4.length = m := by rw [← hU4, restTo_len, HM.out]
      rw [hU4] at hS4
      have hGR : GR w B g m j W (leftTo U W j) (U.map (·.id)) R t E A9 c9 ⟨U4, leftTo U W j, List.replicate m 0, t⟩ w4 := by
        refine ⟨hS4, ?_, ⟨by simp, by rw [leftTo_len]; exact HM.out, hul4, fun p => (left_bd HWO.out p).1, fun p => by rw [rep_at]; omega, fun p => by rw [rep_at]; exact Int.add_zero _, ?_, t0, hid4⟩, by show Rat U4 (R + (t - t)); rw [show R + (t - t) = R by omega]; exact hra, Int.le_refl _, hEf, (Frm.ru HF.out.1).then f4 (fun x hx => RU.back (Frm.ru HF.out.1) hx)⟩
        · show RowX w4 w.heap.size _ (outTo W U4 (List.replicate m 0) j)
          rw [outTo_ids hid4]
          exact HF.out.2.ru f4
        · show (List.replicate m (0 : Int)).sum + t = t
          rw [sum_zero _ (fun p => rep_at m p)]; omega
      have HG := Lib.hid hGR
      clear hrest hU4 hEf hra hid4 hul4 hS4 f4 hGR
      go_wp2_with fail
      go_loopw [1] (fun vt wr => ∃ s : GS, vt = .int .i64 s.t ∧ GR w B g m j W (leftTo U W j) (U.map (·.id)) R t E A9 c9 s wr) (fun vt _ => (intOf vt).toNat)
      case atStart => exact ⟨_, rfl, HG.out⟩
      case round =>
        clear HG
        obtain ⟨s, rfl, I⟩ := hrel
        have st0 := I.ga.t0
        have st1 := I.t1
        by_cases hpos : 0 < s.t
        · obtain ⟨wo, rfl⟩ : ∃ wo, wo = wr := ⟨_, rfl⟩
          have HI := Lib.hid I
          have hfit := Lib.hid (I.ra.fit (show R + (t - s.t) ≤ 10000000000 by omega))
          have hlg := I.ga.lg
          have hwant := fun i (hi : i < m) => want_of (WOk.ids I.ga.ids HWO.out) (Dis.ids I.ga.ids HD.out) (L := s.L) (G := s.G) (fun p => by rw [leftTo_ids I.ga.ids]; exact hlg p) I.ga.gb (i := i) (by rw [I.ga.ul]; exact hi)
          have HWT := Lib.hid hwant
          have HUL := Lib.hid I.ga.ul
          obtain ⟨st, hst⟩ : ∃ x, s.t = x := ⟨_, rfl⟩
          rw [hst] at hpos st0 st1 ⊢
          have HST := Lib.hid hst
          clear I hlg hwant hst
          go_wp2_with fail
          go_loopw [11, 12] (fun vb vi wx => ∃ i : Nat, vi = .int .i64 i ∧ i ≤ m ∧ vb = .int .i64 (oV (bestTo s.U s.L i)) ∧ Frm No wo wx) (fun _ vi _ => m - (intOf vi).toNat)
          case atStart => exact ⟨0, rfl, by omega, rfl, Frm.refl _ _⟩
          case round =>
            obtain ⟨i, rfl, hi, rfl, F⟩ := hrel
            have i0 : (0 : Int) ≤ (i : Int) := Int.natCast_nonneg _
            have hS := HI.out.S.frmN F
            obtain ⟨_, vv, hbb, hoo⟩ := id hS
            obtain ⟨A1, c1, rfl, hr⟩ := rdR_of hoo
            have k1 : wr.cell? ⟨g, 0, none⟩ = some (.slice A1 s.U.length c1) := hbb.cell 0
            rw [HUL.out] at k1
            have HR := Lib.hid hr
            have HX := Lib.hid (And.intro (HWS.out wr (HI.out.fr.thenN F)) (rdX_slice (HI.out.X.frm F (fun _ _ _ h => h))).2.2)
            have HF2 := Lib.hid F
            clear hS hbb hoo hr F
            by_cases hlt : i < m
            · have i1 : (i : Int) < (m : Int) := by omega
              have hstep : bestTo s.U s.L (i + 1) = if 0 < s.L.getD i 0 then
                  match bestTo s.U s.L i with
                  | none => some i
                  | some b => if (s.U.getD i u0).sv * (s.U.getD b u0).wt < (s.U.getD b u0).sv * (s.U.getD i u0).wt then some i else some b
                else bestTo s.U s.L i := rfl
              obtain ⟨ad, rfl, -, ka, kb, kc⟩ := HR.out i (by rw [HUL.out]; exact hlt)
              have hfi := hfit.out _ (memU (U := s.U) (i := i) (by rw [HUL.out]; exact hlt))
              have hwt := HWT.out i hlt
              obtain ⟨⟨xi, xw, xs⟩, hx⟩ : ∃ u, s.U.getD i u0 = u := ⟨_, rfl⟩
              rw [hx] at ka kb kc hfi hstep hwt
              simp only at ka kb kc hfi hstep hwt
              obtain ⟨l, hle⟩ : ∃ l, s.L.getD i 0 = l := ⟨_, rfl⟩
              rw [hle] at hstep hwt
              obtain ⟨w1, w2, w3, w4⟩ := hfi
              obtain ⟨o, ho⟩ : ∃ o, bestTo s.U s.L i = o := ⟨_, rfl⟩
              have hbl := bestTo_lt s.U s.L i
              rw [ho] at hstep hbl ⊢
              have hwv : ∃ v, wiV W (outTo W s.U s.G j) xi = v ∧ (v < 0 ↔ ¬ 0 < l) := by
                by_cases hp : 0 < l
                · obtain ⟨k, hk, e1, -, -⟩ := hwt.1 hp
                  exact ⟨_, wiV_yes HN.out e1 hk, by omega⟩
                · exact ⟨_, wiV_no HN.out (hwt.2 (by omega)), by omega⟩
              obtain ⟨wv, hwv, hwp⟩ := hwv
              have hwc := rwant_any wr A A9 j c c9 W (outTo W s.U s.G j) xi HX.out.1 HX.out.2 HN.out (outTo_len _ _ _ _) hn2
              rw [hwv] at hwc
              clear hx hle ho hwv hwt
              go_wp2_with fail
              refine hwc.mono ?_
              rintro e w5 ⟨rfl, m5, rfl⟩
              by_cases hlp : 0 < l
              · rw [if_pos hlp] at hstep
                have hwn : ¬ wv < 0 := by omega
                clear hwp
                cases o with
                | none =>
                  simp only at hstep
                  have HSTP := Lib.hid hstep
                  have hov : oV none = -1 := rfl
                  rw [hov]
                  clear hstep hbl hov
                  go_wp2_with fail
                  go_quiet (fail)
                  go_wp2_with fail
                  go_roundw
                  case rel => exact ⟨i + 1, by go_num, by omega, by rw [HSTP.out]; rfl, HF2.out.drewN _⟩
                  case measure => simp [intOf]; omega
                | some b =>
                  simp only at hstep
                  have hbi := hbl b rfl
                  obtain ⟨ad', e, -, -, kw, ks⟩ := HR.out b (by rw [HUL.out]; omega)
                  injection e with e
                  subst e
                  have hfb := hfit.out _ (memU (U := s.U) (i := b) (by rw [HUL.out]; omega))
                  obtain ⟨⟨yi, yw, ys⟩, hy⟩ : ∃ u, s.U.getD b u0 = u := ⟨_, rfl⟩
                  rw [hy] at kw ks hfb hstep
                  simp only at kw ks hfb hstep
                  obtain ⟨y1, y2, y3, y4⟩ := hfb
                  have hov : oV (some b) = (b : Int) := rfl
                  rw [hov]
                  have b0 : (0 : Int) ≤ (b : Int) := Int.natCast_nonneg _
                  have b1 : (b : Int) < (m : Int) := by omega
                  have bd : decide ((b : Int) < 0) = false := decide_eq_false (by omega)
                  have m1 : 0 ≤ xs * yw ∧ xs * yw ≤ 16000000000000 := prod_le w3 w4 y1 y2
                  have m2 : 0 ≤ ys * xw ∧ ys * xw ≤ 16000000000000 := prod_le y3 y4 w1 w2
                  obtain ⟨m1, m1'⟩ := m1
                  obtain ⟨m2, m2'⟩ := m2
                  have p1 : IntKind.i64.wrap (xs * yw) = xs * yw := IntWalk.i64_in _ ⟨by omega, by omega⟩
                  have p2 : IntKind.i64.wrap (ys * xw) = ys * xw := IntWalk.i64_in _ ⟨by omega, by omega⟩
                  by_cases hc : xs * yw < ys * xw
                  · rw [if_pos hc] at hstep
                    have HSTP := Lib.hid hstep
                    have P := Lib.hid (And.intro p1 p2)
                    clear hstep hbl hy hov p1 p2
                    go_wp2_with fail
                    obtain ⟨p1, p2⟩ := P.out
                    go_quiet (fail)
                    clear p1 p2
                    go_wp2_with fail
                    go_roundw
                    case rel => exact ⟨i + 1, by go_num, by omega, by rw [HSTP.out]; rfl, HF2.out.drewN _⟩
                    case measure => simp [intOf]; omega
                  · rw [if_neg hc] at hstep
                    have hcd : decide (xs * yw < ys * xw) = false := decide_eq_false hc
                    have HSTP := Lib.hid hstep
                    have P := Lib.hid (And.intro p1 p2)
                    clear hstep hbl hy hov hc p1 p2
                    go_wp2_with fail
                    obtain ⟨p1, p2⟩ := P.out
                    go_quiet (fail)
                    clear p1 p2
                    go_wp2_with fail
                    go_roundw
                    case rel => exact ⟨i + 1, by go_num, by omega, by rw [HSTP.out]; rfl, HF2.out.drewN _⟩
                    case measure => simp [intOf]; omega
              · rw [if_neg hlp] at hstep
                have hwn : wv < 0 := by omega
                have HSTP := Lib.hid hstep
                clear hstep hbl hwp
                go_wp2_with fail
                go_roundw
                case rel => exact ⟨i + 1, by go_num, by omega, by rw [HSTP.out], HF2.out.drewN _⟩
                case measure => simp [intOf]; omega
            · have i1 : ¬ (i : Int) < (m : Int) := by omega
              obtain rfl : i = m := by omega
              have HI2 := Lib.hid (HI.out.frmN HF2.out)
              clear HI
              obtain ⟨o, ho⟩ : ∃ o, bestTo s.U s.L i = o := ⟨_, rfl⟩
              rw [ho]
              cases o with
              | none =>
                have hend : stepG s = none := by unfold stepG; rw [HST.out, if_pos hpos, HUL.out, ho]; rfl
                obtain rfl : s = E := by rw [← HI2.out.fin]; exact (fin_none hend).symm
                have hov : oV none = -1 := rfl
                rw [hov]
                clear hend hov ho
                go_wp2_with fail
                go_ret2
                exact ⟨_, rfl, HI2.out.X, HI2.out.S, HI2.out.fr⟩
              | some b =>
                have hbi := bestTo_lt _ _ _ _ ho
                have hlp := bestTo_pos _ _ _ _ ho
                have hst : stepG s = some (stepAt s b) := by unfold stepG; rw [HST.out, if_pos hpos, HUL.out, ho]; rfl
                have hov : oV (some b) = (b : Int) := rfl
                rw [hov]
                have b0 : (0 : Int) ≤ (b : Int) := Int.natCast_nonneg _
                have b1 : (b : Int) < (i : Int) := by omega
                obtain ⟨k, hk, e1, e2, e3⟩ := (HWT.out b hbi).1 hlp
                obtain ⟨ad, rfl, -, ka, -, -⟩ := HR.out b (by rw [HUL.out]; exact hbi)
                have hwc := rwant_any wr A A9 j c c9 W (outTo W s.U s.G j) (s.U.getD b u0).id HX.out.1 HX.out.2 HN.out (outTo_len _ _ _ _) hn2
                rw [wiV_yes HN.out e1 hk] at hwc
                have hoa := outTo_at W s.U s.G j k hk
                rw [e2] at hoa
                have lb := HI2.out.ga.lb b
                have gb := HI2.out.ga.gb b
                have wb := (HWO.out.bd k hk).2
                obtain ⟨⟨p, r⟩, hp⟩ : ∃ u, W.getD k (0, 0) = u := ⟨_, rfl⟩
                rw [hp] at hoa e3 wb
                simp only at hoa e3 wb
                obtain ⟨aw, rfl, q0, q1⟩ := HX.out.1.at_ (j := k) (by rw [HN.out]; exact hk) hp
                obtain ⟨ao, hao, q2, q3⟩ := HX.out.2.at_ (j := k) (by rw [outTo_len]; exact hk) hoa
                obtain ⟨gv, hgv⟩ : ∃ x, s.G.getD b 0 = x := ⟨_, rfl⟩
                rw [hgv] at q3 e3 gb
                have hl : s.L.getD b 0 = r - gv := by omega
                rw [hl] at lb hlp
                obtain ⟨xi, hxi⟩ : ∃ x, (s.U.getD b u0).id = x := ⟨_, rfl⟩
                rw [hxi] at ka hwc
                have w1 : IntKind.i64.wrap (r - gv) = r - gv := IntWalk.i64_in _ ⟨by omega, by omega⟩
                have kk0 : (0 : Int) ≤ (k : Int) := Int.natCast_nonneg _
                have kk1 : (k : Int) < (j : Int) := by omega
                have HW1 := Lib.hid w1
                have HH := Lib.hid (And.intro hst (And.intro e2 (And.intro hl (And.intro hgv ho))))
                clear hst hov e1 e2 e3 hoa hp hgv hl hxi w1 ho
                by_cases h64 : r - gv < 64
                · have d64 : decide (r - gv < 64) = true := decide_eq_true h64
                  by_cases hts : st < r - gv
                  · have hts' : st < 64 := by omega
                    have hn : piece (s.L.getD b 0) s.t = st := by unfold piece; rw [HH.out.2.2.1, HST.out, if_pos h64, if_pos hts]
                    obtain ⟨a9, ad', c', x, e9, n1, n2, kk, ks, kg, kz9, ⟨x0, x1⟩, kz, I9⟩ := rgi_step HI2.out hB hbi hk rfl HWO.out HH.out.2.1 HH.out.1 hn
                    rw [k1] at kk
                    injection kk with kk
                    injection kk with kka _ kkc
                    injection kka with kka
                    subst kka
                    subst kkc
                    rw [HH.out.2.2.2.1] at I9 kg
                    rw [HST.out] at x1
                    rw [e9] at hao
                    injection hao with hao
                    subst hao
                    subst e9
                    have I10 := Lib.hid I9
                    have n3 : ¬ (ad.add (b * 3)).block = (a9.add (k * 2)).block := by rw [block_add a9]; exact n1
                    have n4 : ¬ g = (a9.add (k * 2)).block := by rw [block_add]; exact n2
                    have hst' : (stepAt s b).t = st - (st) := by show s.t - piece (s.L.getD b 0) s.t = _; rw [hn, HST.out]
                    have HSN := Lib.hid hst'
                    clear I9 hst' hn
                    go_wp2_with fail
                    refine hwc.mono ?_
                    rintro e w5 ⟨rfl, m5, rfl⟩
                    go_wp2_with fail
                    have w1 := HW1.out
                    go_quiet (fail)
                    go_wp2_with fail
                    go_quiet (fail)
                    clear w1
                    go_wp2_with fail
                    go_region
                    go_wp2_with fail
                    go_roundw
                    case rel => exact ⟨stepAt s b, by rw [HSN.out] <;> simp, I10.out.frmN ⟨rfl, rfl, rfl, Nat.le_refl _, fun _ _ _ => rfl⟩⟩
                    case measure => simp [intOf]; omega
                  · have hxx : True := trivial
                    have hn : piece (s.L.getD b 0) s.t = r - gv := by unfold piece; rw [HH.out.2.2.1, HST.out, if_pos h64, if_neg hts]
                    obtain ⟨a9, ad', c', x, e9, n1, n2, kk, ks, kg, kz9, ⟨x0, x1⟩, kz, I9⟩ := rgi_step HI2.out hB hbi hk rfl HWO.out HH.out.2.1 HH.out.1 hn
                    rw [k1] at kk
                    injection kk with kk
                    injection kk with kka _ kkc
                    injection kka with kka
                    subst kka
                    subst kkc
                    rw [HH.out.2.2.2.1] at I9 kg
                    rw [HST.out] at x1
                    rw [e9] at hao
                    injection hao with hao
                    subst hao
                    subst e9
                    have I10 := Lib.hid I9
                    have n3 : ¬ (ad.add (b * 3)).block = (a9.add (k * 2)).block := by rw [block_add a9]; exact n1
                    have n4 : ¬ g = (a9.add (k * 2)).block := by rw [block_add]; exact n2
                    have hst' : (stepAt s b).t = st - (r - gv) := by show s.t - piece (s.L.getD b 0) s.t = _; rw [hn, HST.out]
                    have HSN := Lib.hid hst'
                    clear I9 hst' hn
                    go_wp2_with fail
                    refine hwc.mono ?_
                    rintro e w5 ⟨rfl, m5, rfl⟩
                    go_wp2_with fail
                    have w1 := HW1.out
                    go_quiet (fail)
                    go_wp2_with fail
                    go_quiet (fail)
                    clear w1
                    go_wp2_with fail
                    go_region
                    go_wp2_with fail
                    go_roundw
                    case rel => exact ⟨stepAt s b, by rw [HSN.out] <;> simp, I10.out.frmN ⟨rfl, rfl, rfl, Nat.le_refl _, fun _ _ _ => rfl⟩⟩
                    case measure => simp [intOf]; omega
                · have d64 : decide (r - gv < 64) = false := decide_eq_false h64
                  by_cases hts : st < 64
                  · have hts' : st < r - gv := by omega
                    have hn : piece (s.L.getD b 0) s.t = st := by unfold piece; rw [HH.out.2.2.1, HST.out, if_neg h64, if_pos hts]
                    obtain ⟨a9, ad', c', x, e9, n1, n2, kk, ks, kg, kz9, ⟨x0, x1⟩, kz, I9⟩ := rgi_step HI2.out hB hbi hk rfl HWO.out HH.out.2.1 HH.out.1 hn
                    rw [k1] at kk
                    injection kk with kk
                    injection kk with kka _ kkc
                    injection kka with kka
                    subst kka
                    subst kkc
                    rw [HH.out.2.2.2.1] at I9 kg
                    rw [HST.out] at x1
                    rw [e9] at hao
                    injection hao with hao
                    subst hao
                    subst e9
                    have I10 := Lib.hid I9
                    have n3 : ¬ (ad.add (b * 3)).block = (a9.add (k * 2)).block := by rw [block_add a9]; exact n1
                    have n4 : ¬ g = (a9.add (k * 2)).block := by rw [block_add]; exact n2
                    have hst' : (stepAt s b).t = st - (st) := by show s.t - piece (s.L.getD b 0) s.t = _; rw [hn, HST.out]
                    have HSN := Lib.hid hst'
                    clear I9 hst' hn
                    go_wp2_with fail
                    refine hwc.mono ?_
                    rintro e w5 ⟨rfl, m5, rfl⟩
                    go_wp2_with fail
                    have w1 := HW1.out
                    go_quiet (fail)
                    go_wp2_with fail
                    clear w1
                    go_region
                    go_wp2_with fail
                    go_roundw
                    case rel => exact ⟨stepAt s b, by rw [HSN.out] <;> simp, I10.out.frmN ⟨rfl, rfl, rfl, Nat.le_refl _, fun _ _ _ => rfl⟩⟩
                    case measure => simp [intOf]; omega
                  · have hxx : True := trivial
                    have hn : piece (s.L.getD b 0) s.t = 64 := by unfold piece; rw [HH.out.2.2.1, HST.out, if_neg h64, if_neg hts]
                    obtain ⟨a9, ad', c', x, e9, n1, n2, kk, ks, kg, kz9, ⟨x0, x1⟩, kz, I9⟩ := rgi_step HI2.out hB hbi hk rfl HWO.out HH.out.2.1 HH.out.1 hn
                    rw [k1] at kk
                    injection kk with kk
                    injection kk with kka _ kkc
                    injection kka with kka
                    subst kka
                    subst kkc
                    rw [HH.out.2.2.2.1] at I9 kg
                    rw [HST.out] at x1
                    rw [e9] at hao
                    injection hao with hao
                    subst hao
                    subst e9
                    have I10 := Lib.hid I9
                    have n3 : ¬ (ad.add (b * 3)).block = (a9.add (k * 2)).block := by rw [block_add a9]; exact n1
                    have n4 : ¬ g = (a9.add (k * 2)).block := by rw [block_add]; exact n2
                    have hst' : (stepAt s b).t = st - (64) := by show s.t - piece (s.L.getD b 0) s.t = _; rw [hn, HST.out]
                    have HSN := Lib.hid hst'
                    clear I9 hst' hn
                    go_wp2_with fail
                    refine hwc.mono ?_
                    rintro e w5 ⟨rfl, m5, rfl⟩
                    go_wp2_with fail
                    have w1 := HW1.out
                    go_quiet (fail)
                    go_wp2_with fail
                    clear w1
                    go_region
                    go_wp2_with fail
                    go_roundw
                    case rel => exact ⟨stepAt s b, by rw [HSN.out] <;> simp, I10.out.frmN ⟨rfl, rfl, rfl, Nat.le_refl _, fun _ _ _ => rfl⟩⟩
                    case measure => simp [intOf]; omega
        · have hend : stepG s = none := by unfold stepG; rw [if_neg hpos]
          obtain rfl : s = E := by rw [← I.fin]; exact (fin_none hend).symm
          have HI := Lib.hid I
          clear hend I
          go_wp2_with fail
          go_ret2
          exact ⟨_, rfl, HI.out.X, HI.out.S, HI.out.fr⟩
end Go.Proofs.Ytiifepajnhdfjaa.A
