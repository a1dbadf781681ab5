/- Whose turn is nearest. -/
import Derived.Test.YtiifepajnhdfjaaD
import Derived.IntWalk
namespace Go.Proofs.Ytiifepajnhdfjaa.A
open Go.RowKit Go.Proofs.Ytiifepajnhdfjaa.K
set_option linter.unusedVariables false
set_option linter.unusedSimpArgs false

/-- Weights and what was served are small enough. -/
def Fit (U : List US) : Prop := ∀ u ∈ U, 1 ≤ u.wt ∧ u.wt ≤ 16 ∧ 0 ≤ u.sv ∧ u.sv ≤ 1000000000000
theorem memU {U : List US} {i : Nat} (h : i < U.length) : U.getD i u0 ∈ U := by
  rw [List.getD_eq_getElem?_getD, List.getElem?_eq_getElem h]; exact List.getElem_mem _
/-- The nearest of the first i; none: 'none'. -/
def bestTo (U : List US) (L : List Int) : Nat → Option Nat
  | 0 => none
  | i + 1 => if 0 < L.getD i 0 then
      match bestTo U L i with
      | none => some i
      | some b => if (U.getD i u0).sv * (U.getD b u0).wt < (U.getD b u0).sv * (U.getD i u0).wt then some i else some b
    else bestTo U L i
theorem bestTo_lt (U : List US) (L : List Int) : ∀ i b, bestTo U L i = some b → b < i
  | 0, b, h => by simp [bestTo] at h
  | i + 1, b, h => by
    unfold bestTo at h
    have ih := bestTo_lt U L i
    split at h
    · split at h
      · simp at h; omega
      · rename_i b' hb'
        have := ih b' hb'
        split at h <;> (simp at h; omega)
    · have := ih b h; omega
def oV (o : Option Nat) : Int := match o with
  | none => -1
  | some b => b

theorem prod_le {s w : Int} (h1 : 0 ≤ s) (h2 : s ≤ 1000000000000) (h3 : 1 ≤ w) (h4 : w ≤ 16) : 0 ≤ s * w ∧ s * w ≤ 16000000000000 := by
  have e := Int.mul_le_mul h2 h4 (by omega) (by omega)
  exact ⟨Int.mul_nonneg h1 (by omega), by omega⟩

set_option maxRecDepth 100000 in
set_option maxHeartbeats 8000000 in
theorem next_ok (w : World) (B g gl : Nat) (U : List US) (L : List Int) (h : IsS w B g U) (hf : Fit U) (hL : RowI w gl L) (hl : L.length = U.length) :
    Calls Try.prog 21 #[.pointer (some ⟨g, 0, none⟩), .slice (some ⟨gl, 0, none⟩) U.length U.length] w fun e w' => e = .returned (.int .i64 (oV (bestTo U L U.length))) ∧ Frm No w w' := by
  have HS := Lib.hid h
  have HL := Lib.hid hL
  have HFT := Lib.hid hf
  obtain ⟨h16, v, hb, ho⟩ := h
  obtain ⟨A1, c1, rfl, hr⟩ := rdU_of ho
  obtain ⟨m, hm⟩ : ∃ m, U.length = m := ⟨_, rfl⟩
  rw [hm] at hb h16 hl
  rw [hm]
  have k1 : w.cell? ⟨g, 1, none⟩ = some (.slice A1 m c1) := hb.cell 1
  have HM := Lib.hid hm
  have HR := Lib.hid hr
  have HB := Lib.hid hb
  have HLL := Lib.hid hl
  clear hb ho hr hm hL hf hl
  go_enter Try.func21, Try.ntmps21
  go_wp2_with fail
  go_loopw [5, 13] (fun vb vi wr => ∃ i : Nat, vi = .int .i64 i ∧ i ≤ m ∧ vb = .int .i64 (oV (bestTo U L i)) ∧ Frm No w wr) (fun _ vi _ => m - (intOf vi).toNat)
  case atStart => exact ⟨0, rfl, by omega, rfl, Frm.refl _ _⟩
  case round =>
    clear k1
    obtain ⟨i, rfl, hi, rfl, F⟩ := hrel
    have i0 : (0 : Int) ≤ (i : Int) := Int.natCast_nonneg _
    by_cases hlt : i < m
    · have i1 : (i : Int) < (m : Int) := by omega
      have hstep : bestTo U L (i + 1) = if 0 < L.getD i 0 then
          match bestTo U L i with
          | none => some i
          | some b => if (U.getD i u0).sv * (U.getD b u0).wt < (U.getD b u0).sv * (U.getD i u0).wt then some i else some b
        else bestTo U L i := rfl
      have hb1 := F.blk HB.out (fun h => h)
      have k1 : wr.cell? ⟨g, 1, none⟩ = some (.slice A1 m c1) := hb1.cell 1
      have hL1 := HL.out.frm F (fun h => h)
      have cl : wr.cell? ⟨gl, i, none⟩ = some (.int .i64 (L.getD i 0)) := by
        rw [Blk.cell hL1]
        simp [List.getElem?_eq_getElem (show i < L.length by rw [HLL.out]; exact hlt), List.getD_eq_getElem?_getD]
      have hgl : gl < wr.heap.size := Blk.lt hL1
      have hgs : g < wr.heap.size := Blk.lt hb1
      obtain ⟨ad, rfl, hbk, ka, kb, kc⟩ := HR.out i (by rw [HM.out]; exact hlt)
      have ka := (World.cell?_of_block (F.block _ (World.block_lt_of_cell? w _ ka) (fun h => h))).trans ka
      have kb := (World.cell?_of_block (F.block _ (World.block_lt_of_cell? w _ kb) (fun h => h))).trans kb
      have kc := (World.cell?_of_block (F.block _ (World.block_lt_of_cell? w _ kc) (fun h => h))).trans kc
      have hfi := HFT.out _ (memU (U := U) (i := i) (by rw [HM.out]; exact hlt))
      obtain ⟨⟨xi, xw, xs⟩, hx⟩ : ∃ u, U.getD i u0 = u := ⟨_, rfl⟩
      rw [hx] at ka kb kc hfi hstep
      simp only at ka kb kc hfi hstep
      obtain ⟨l, hle⟩ : ∃ l, L.getD i 0 = l := ⟨_, rfl⟩
      rw [hle] at cl hstep
      have F3 := F.alloc (.cells #[.int .i64 xi, .int .i64 xw, .int .i64 xs] 60)
      obtain ⟨w1, w2, w3, w4⟩ := hfi
      obtain ⟨o, ho⟩ : ∃ o, bestTo U L i = o := ⟨_, rfl⟩
      have hbl := bestTo_lt U L i
      rw [ho] at hstep hbl ⊢
      clear hx hle hL1 hb1 ho
      have HC := Lib.hid (And.intro F.size (And.intro hbk F))
      by_cases hpos : 0 < l
      · rw [if_pos hpos] at hstep
        cases o with
        | none =>
          simp only at hstep
          have HST := Lib.hid hstep
          have hov : oV none = -1 := rfl
          rw [hov]
          clear hstep hbl hov hbk F
          go_wp2_with fail
          go_quiet (fail)
          go_wp2_with fail
          go_roundw
          case rel => exact ⟨i + 1, by go_num, by omega, by rw [HST.out]; rfl, F3.drewN _⟩
          case measure => simp [intOf]; omega
        | some b =>
          simp only at hstep
          have hbi := hbl b rfl
          obtain ⟨ad', e, -, -, kw, ks⟩ := HR.out b (by rw [HM.out]; omega)
          injection e with e
          subst e
          have kw := (World.cell?_of_block (F.block _ (World.block_lt_of_cell? w _ kw) (fun h => h))).trans kw
          have ks := (World.cell?_of_block (F.block _ (World.block_lt_of_cell? w _ ks) (fun h => h))).trans ks
          have hfb := HFT.out _ (memU (U := U) (i := b) (by rw [HM.out]; omega))
          obtain ⟨⟨yi, yw, ys⟩, hy⟩ : ∃ u, U.getD b u0 = u := ⟨_, rfl⟩
          rw [hy] at kw ks hfb hstep
          simp only at kw ks hfb hstep
          obtain ⟨y1, y2, y3, y4⟩ := hfb
          have kwA : ∀ o, (wr.alloc o).cell? ⟨(ad.add (b * 3)).block, (ad.add (b * 3)).off + 1, none⟩ = some (.int .i64 yw) := fun o => (World.cell?_alloc_lt wr o _ (World.block_lt_of_cell? wr _ kw)).trans kw
          have ksA : ∀ o, (wr.alloc o).cell? ⟨(ad.add (b * 3)).block, (ad.add (b * 3)).off + 2, none⟩ = some (.int .i64 ys) := fun o => (World.cell?_alloc_lt wr o _ (World.block_lt_of_cell? wr _ ks)).trans ks
          have hov : oV (some b) = (b : Int) := rfl
          rw [hov]
          have b0 : (0 : Int) ≤ (b : Int) := Int.natCast_nonneg _
          have b1 : (b : Int) < (m : Int) := by omega
          have bd : decide ((b : Int) < 0) = false := decide_eq_false (by omega)
          have m1 : 0 ≤ xs * yw ∧ xs * yw ≤ 16000000000000 := prod_le w3 w4 y1 y2
          have m2 : 0 ≤ ys * xw ∧ ys * xw ≤ 16000000000000 := prod_le y3 y4 w1 w2
          obtain ⟨m1, m1'⟩ := m1
          obtain ⟨m2, m2'⟩ := m2
          have p1 : IntKind.i64.wrap (xs * yw) = xs * yw := IntWalk.i64_in _ ⟨by omega, by omega⟩
          have p2 : IntKind.i64.wrap (ys * xw) = ys * xw := IntWalk.i64_in _ ⟨by omega, by omega⟩
          by_cases hc : xs * yw < ys * xw
          · rw [if_pos hc] at hstep
            have HST := Lib.hid hstep
            have P := Lib.hid (And.intro p1 p2)
            clear hstep hbl hbk F hy hov p1 p2
            obtain ⟨p1, p2⟩ := P.out
            go_wp2_with fail
            go_quiet (fail)
            clear p1 p2
            go_wp2_with fail
            go_roundw
            case rel => exact ⟨i + 1, by go_num, by omega, by rw [HST.out]; rfl, F3.drewN _⟩
            case measure => simp [intOf]; omega
          · rw [if_neg hc] at hstep
            have hcd : decide (xs * yw < ys * xw) = false := decide_eq_false hc
            have HST := Lib.hid hstep
            have P := Lib.hid (And.intro p1 p2)
            clear hstep hbl hbk F hy hov hc p1 p2
            obtain ⟨p1, p2⟩ := P.out
            go_wp2_with fail
            go_quiet (fail)
            clear p1 p2
            go_wp2_with fail
            go_roundw
            case rel => exact ⟨i + 1, by go_num, by omega, by rw [HST.out]; rfl, F3.drewN _⟩
            case measure => simp [intOf]; omega
      · rw [if_neg hpos] at hstep
        have HST := Lib.hid hstep
        have hd : decide (0 < l) = false := decide_eq_false hpos
        clear hstep hbl hbk F hpos
        go_wp2_with fail
        go_quiet (fail)
        go_wp2_with fail
        go_roundw
        case rel => exact ⟨i + 1, by go_num, by omega, by rw [HST.out], F3.drewN _⟩
        case measure => simp [intOf]; omega
    · have i1 : ¬ (i : Int) < (m : Int) := by omega
      have him : i = m := by omega
      subst him
      go_wp2_with fail
      go_ret
      exact ⟨rfl, F⟩
end Go.Proofs.Ytiifepajnhdfjaa.A
