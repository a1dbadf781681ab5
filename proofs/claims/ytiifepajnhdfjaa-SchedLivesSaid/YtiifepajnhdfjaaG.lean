/- rest's walk. -/
import Derived.Test.YtiifepajnhdfjaaF
import Derived.StillTailTactics
namespace Go.Proofs.Ytiifepajnhdfjaa.A
open Go.RowKit Go.Proofs.Ytiifepajnhdfjaa.K
set_option linter.unusedVariables false
set_option linter.unusedSimpArgs false

theorem SU.back {w wr : World} {B k : Nat} (h : Frm (SU w B) w wr) (hk : SU wr B k) : SU w B k ∨ w.heap.size ≤ k := by
  by_cases h1 : k < w.heap.size
  · by_cases h2 : SU w B k
    · exact .inl h2
    · left
      obtain ⟨hB, cs, hb⟩ := hk
      exact ⟨hB, cs, (h.block k h1 h2).symm.trans hb⟩
  · exact .inr (by omega)
theorem Frm.thenS {w wr w2 : World} {B : Nat} (h : Frm (SU w B) w wr) (k : Frm (SU wr B) wr w2) : Frm (SU w B) w w2 := h.then k fun _ hi => SU.back h hi
theorem RowI.su {w w' : World} {B gl : Nat} {L : List Int} (h : RowI w gl L) (f : Frm (SU w B) w w') : RowI w' gl L :=
  h.frm f (fun e => by obtain ⟨_, cs, hb⟩ := e; exact Blk.ne hb h (by decide) rfl)
theorem Frm.su {w w' : World} {B : Nat} (h : Frm No w w') : Frm (SU w B) w w' := h.mono fun _ h => h.elim
theorem tdiv_is {a b : Int} (h : 0 ≤ a) : a.tdiv b = a / b := Int.tdiv_eq_ediv_of_nonneg h

set_option maxRecDepth 100000 in
set_option maxHeartbeats 8000000 in
theorem rest_ok (w : World) (B g gl : Nat) (U : List US) (L : List Int) (h : IsS w B g U) (hf : Fit U) (hL : RowI w gl L) (hl : L.length = U.length) (hpL : ∀ j, 0 ≤ L.getD j 0) :
    Calls Try.prog 20 #[.pointer (some ⟨g, 0, none⟩), .slice (some ⟨gl, 0, none⟩) U.length U.length] w fun e w' => e = .returned (.tuple #[]) ∧ IsS w' B g (restTo U L (leastTo U L U.length) U.length) ∧ Frm (SU w B) w w' := by
  have HS := Lib.hid h
  have HL := Lib.hid hL
  have HFT := Lib.hid hf
  obtain ⟨h16, v, hb, ho⟩ := h
  obtain ⟨A1, c1, rfl, hr⟩ := rdU_of ho
  obtain ⟨m, hm⟩ : ∃ m, U.length = m := ⟨_, rfl⟩
  rw [hm] at hb h16 hl
  rw [hm]
  have k1 : w.cell? ⟨g, 1, none⟩ = some (.slice A1 m c1) := hb.cell 1
  have HM := Lib.hid hm
  have HR := Lib.hid hr
  have HB := Lib.hid hb
  have HLL := Lib.hid hl
  have HLE := Lib.hid (leastTo_le (L := L) hf)
  have HPL := Lib.hid hpL
  clear hb ho hr hm hL hf hl hpL
  go_enter Try.func20, Try.ntmps20
  go_wp2_with fail
  go_loopw [4, 14] (fun vb vi wr => ∃ i : Nat, vi = .int .i64 i ∧ i ≤ m ∧ vb = .int .i64 (leastTo U L i) ∧ Frm No w wr) (fun _ vi _ => m - (intOf vi).toNat)
  case atStart => exact ⟨0, rfl, by omega, rfl, Frm.refl _ _⟩
  case round =>
    clear k1
    obtain ⟨i, rfl, hi, rfl, F⟩ := hrel
    have i0 : (0 : Int) ≤ (i : Int) := Int.natCast_nonneg _
    by_cases hlt : i < m
    · have i1 : (i : Int) < (m : Int) := by omega
      have hstep : leastTo U L (i + 1) = if 0 < L.getD i 0 ∧ (leastTo U L i < 0 ∨ (U.getD i u0).sv / (U.getD i u0).wt < leastTo U L i) then (U.getD i u0).sv / (U.getD i u0).wt else leastTo U L i := rfl
      have hb1 := F.blk HB.out (fun h => h)
      have k1 : wr.cell? ⟨g, 1, none⟩ = some (.slice A1 m c1) := hb1.cell 1
      have hL1 := HL.out.frm F (fun h => h)
      have cl : wr.cell? ⟨gl, i, none⟩ = some (.int .i64 (L.getD i 0)) := by
        rw [Blk.cell hL1]
        simp [List.getElem?_eq_getElem (show i < L.length by rw [HLL.out]; exact hlt), List.getD_eq_getElem?_getD]
      have hgl : gl < wr.heap.size := Blk.lt hL1
      obtain ⟨ad, rfl, hbk, ka, kb, kc⟩ := HR.out i (by rw [HM.out]; exact hlt)
      have ka := (World.cell?_of_block (F.block _ (World.block_lt_of_cell? w _ ka) (fun h => h))).trans ka
      have kb := (World.cell?_of_block (F.block _ (World.block_lt_of_cell? w _ kb) (fun h => h))).trans kb
      have kc := (World.cell?_of_block (F.block _ (World.block_lt_of_cell? w _ kc) (fun h => h))).trans kc
      have hfi := HFT.out _ (memU (U := U) (i := i) (by rw [HM.out]; exact hlt))
      obtain ⟨⟨xi, xw, xs⟩, hx⟩ : ∃ u, U.getD i u0 = u := ⟨_, rfl⟩
      rw [hx] at ka kb kc hfi hstep
      simp only at ka kb kc hfi hstep
      obtain ⟨l, hle⟩ : ∃ l, L.getD i 0 = l := ⟨_, rfl⟩
      rw [hle] at cl hstep
      have F3 := F.alloc (.cells #[.int .i64 xi, .int .i64 xw, .int .i64 xs] 60)
      obtain ⟨w1, w2, w3, w4⟩ := hfi
      have hq0 := Int.ediv_nonneg w3 (show 0 ≤ xw by omega)
      have hq1 := Int.ediv_le_self xw w3
      have hdv := tdiv_is (b := xw) w3
      have hwz : (xw == 0) = false := beq_eq_false_iff_ne.2 (by omega)
      obtain ⟨q, hq⟩ : ∃ q, xs / xw = q := ⟨_, rfl⟩
      rw [hq] at hq0 hq1 hdv hstep
      obtain ⟨o1, o2⟩ := HLE.out i (by rw [HM.out]; omega)
      obtain ⟨b, hb⟩ : ∃ b, leastTo U L i = b := ⟨_, rfl⟩
      rw [hb] at hstep o1 o2 ⊢
      clear hx hle hL1 hb1 hb F hbk hq
      by_cases hpos : 0 < l
      · by_cases hbn : b < 0
        · rw [if_pos ⟨hpos, .inl hbn⟩] at hstep
          have HST := Lib.hid hstep
          clear hstep
          go_wp2_with fail
          go_roundw
          case rel => exact ⟨i + 1, by go_num, by omega, by rw [HST.out], F3⟩
          case measure => simp [intOf]; omega
        · by_cases hqb : q < b
          · rw [if_pos ⟨hpos, .inr hqb⟩] at hstep
            have HST := Lib.hid hstep
            clear hstep
            go_wp2_with fail
            go_roundw
            case rel => exact ⟨i + 1, by go_num, by omega, by rw [HST.out], F3⟩
            case measure => simp [intOf]; omega
          · rw [if_neg (by omega)] at hstep
            have HST := Lib.hid hstep
            clear hstep
            go_wp2_with fail
            go_roundw
            case rel => exact ⟨i + 1, by go_num, by omega, by rw [HST.out], F3⟩
            case measure => simp [intOf]; omega
      · rw [if_neg (by omega)] at hstep
        have HST := Lib.hid hstep
        clear hstep
        go_wp2_with fail
        go_roundw
        case rel => exact ⟨i + 1, by go_num, by omega, by rw [HST.out], F3⟩
        case measure => simp [intOf]; omega
    · have i1 : ¬ (i : Int) < (m : Int) := by omega
      have him : i = m := by omega
      subst him
      obtain ⟨o1, o2⟩ := HLE.out i (by rw [HM.out]; omega)
      obtain ⟨q, hq⟩ : ∃ q, leastTo U L i = q := ⟨_, rfl⟩
      rw [hq] at o1 o2 ⊢
      have HQ := Lib.hid hq
      have hb1 := F.blk HB.out (fun h => h)
      have k1 : wr.cell? ⟨g, 1, none⟩ = some (.slice A1 i c1) := hb1.cell 1
      have hS0 := HS.out.frmN F
      have hL0 := HL.out.frm F (fun h => h)
      have FS := Frm.su (B := B) F
      clear hb1 hq F
      obtain ⟨wo, rfl⟩ : ∃ wo, wo = wr := ⟨_, rfl⟩
      go_wp2_with fail
      go_loopw [45] (fun vj wr => ∃ j : Nat, vj = .int .i64 j ∧ j ≤ i ∧ IsS wr B g (restTo U L q j) ∧ RowI wr gl L ∧ Frm (SU w B) w wr) (fun vj _ => i - (intOf vj).toNat)
      case atStart => exact ⟨0, rfl, by omega, hS0, hL0, FS⟩
      case round =>
        clear hS0 hL0 FS k1
        obtain ⟨j, rfl, hj, hS, hL, F⟩ := hrel
        have j0 : (0 : Int) ≤ (j : Int) := Int.natCast_nonneg _
        by_cases hlt : j < i
        · have j1 : (j : Int) < (i : Int) := by omega
          have hstep : restTo U L q (j + 1) = if L.getD j 0 = 0 ∧ 0 ≤ q then (restTo U L q j).set j (lift q (U.getD j u0)) else restTo U L q j := rfl
          have cl : wr.cell? ⟨gl, j, none⟩ = some (.int .i64 (L.getD j 0)) := by
            rw [Blk.cell hL]
            simp [List.getElem?_eq_getElem (show j < L.length by rw [HLL.out]; exact hlt), List.getD_eq_getElem?_getD]
          have hpl := HPL.out j
          have hrl := restTo_len U L q j
          have hat := restTo_at U L q j j (Nat.le_refl _)
          have hfi := HFT.out _ (memU (U := U) (i := j) (by rw [HM.out]; exact hlt))
          obtain ⟨l, hle⟩ : ∃ l, L.getD j 0 = l := ⟨_, rfl⟩
          rw [hle] at cl hstep hpl
          by_cases hl0 : l = 0
          · by_cases hq0 : 0 ≤ q
            · rw [if_pos ⟨hl0, hq0⟩] at hstep
              obtain ⟨ad, c, kk, rd, kz, kS, kF⟩ := hS.put (i := j) (by rw [hrl, HM.out]; exact hlt) (if (U.getD j u0).sv < (U.getD j u0).wt * q then (U.getD j u0).wt * q else (U.getD j u0).sv)
              obtain ⟨ad', e, -, -, kw, ks⟩ := rd j (by rw [hrl, HM.out]; exact hlt)
              injection e with e
              subst e
              rw [hat] at kw ks kS
              obtain ⟨⟨xi, xw, xs⟩, hx⟩ : ∃ u, U.getD j u0 = u := ⟨_, rfl⟩
              rw [hx] at kw ks kS kF hfi hstep
              simp only at kw ks kS kF hfi
              rw [hrl, HM.out] at kk
              have hlift : lift q ⟨xi, xw, xs⟩ = ⟨xi, xw, if xs < xw * q then xw * q else xs⟩ := rfl
              rw [hlift] at hstep
              rw [← hstep] at kS
              obtain ⟨w1, w2, w3, w4⟩ := hfi
              have hp := prod_le hq0 o2 w1 w2
              rw [Int.mul_comm] at hp
              obtain ⟨p1, p2⟩ := hp
              have DONE := Lib.hid (And.intro kS kF)
              have hd1 : (l == 0) = true := beq_iff_eq.2 hl0
              have hLL := Lib.hid hL
              have FH := Lib.hid F
              have pw : IntKind.i64.wrap (xw * q) = xw * q := IntWalk.i64_in _ ⟨by omega, by omega⟩
              clear hx hstep hlift kS kF hle hrl hat rd hS hL F
              go_wp2_with fail
              go_region
              go_wp2_with fail
              go_roundw
              case rel => exact ⟨j + 1, by go_num, by omega, DONE.out.1, RowI.su hLL.out (Frm.drew DONE.out.2), Frm.thenS FH.out (Frm.drew DONE.out.2)⟩
              case measure => simp [intOf]; omega
            · rw [if_neg (by omega)] at hstep
              have HST := Lib.hid hstep
              have hd1 : (l == 0) = true := beq_iff_eq.2 hl0
              clear hstep hle hrl hat
              obtain ⟨_, vv, hb2, ho2⟩ := id hS
              go_wp2_with fail
              go_roundw
              case rel => exact ⟨j + 1, by go_num, by omega, by rw [HST.out]; exact hS, hL, F⟩
              case measure => simp [intOf]; omega
          · rw [if_neg (by omega)] at hstep
            have HST := Lib.hid hstep
            have hd1 : (l == 0) = false := beq_eq_false_iff_ne.2 hl0
            clear hstep hle hrl hat
            go_wp2_with fail
            go_roundw
            case rel => exact ⟨j + 1, by go_num, by omega, by rw [HST.out]; exact hS, hL, F⟩
            case measure => simp [intOf]; omega
        · have j1 : ¬ (j : Int) < (i : Int) := by omega
          have hji : j = i := by omega
          subst hji
          go_wp2_with fail
          go_end0
          exact ⟨rfl, by rw [HQ.out]; exact hS, F⟩
end Go.Proofs.Ytiifepajnhdfjaa.A
