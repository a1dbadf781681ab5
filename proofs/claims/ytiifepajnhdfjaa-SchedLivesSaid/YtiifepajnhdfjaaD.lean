/- What each user wants. -/
import Derived.Test.YtiifepajnhdfjaaC
import Derived.StillTailTactics
import Derived.Deep.RegionLaw
import Derived.Laws.MakeOwn
namespace Go.Proofs.Ytiifepajnhdfjaa.A
open Go.RowKit Go.Proofs.Ytiifepajnhdfjaa.K
set_option linter.unusedVariables false
set_option linter.unusedSimpArgs false

/-- A row of ints of the call's own, whole. -/
def RowI (w : World) (g : Nat) (L : List Int) : Prop := Blk w g (L.map (Value.int .i64)).toArray 3
theorem RowI.cell {w : World} {g : Nat} {L : List Int} (h : RowI w g L) {j : Nat} (hj : j < L.length) : w.cell? ((⟨g, 0, none⟩ : Addr).add j) = some (.int .i64 (L.getD j 0)) := by
  have ea : (⟨g, 0, none⟩ : Addr).add j = ⟨g, j, none⟩ := by unfold Addr.add; by_cases h0 : j = 0 <;> simp [h0]
  rw [ea, Blk.cell h]
  simp [List.getElem?_eq_getElem hj, List.getD_eq_getElem?_getD]
theorem RowI.set {w : World} {g : Nat} {L : List Int} (h : RowI w g L) (j : Nat) (v : Int) : RowI (w.setCell ((⟨g, 0, none⟩ : Addr).add j) (.int .i64 v)) g (L.set j v) := by
  have ea : (⟨g, 0, none⟩ : Addr).add j = ⟨g, j, none⟩ := by unfold Addr.add; by_cases h0 : j = 0 <;> simp [h0]
  rw [ea]
  have := Blk.set h j (.int .i64 v)
  unfold RowI
  rw [List.map_set]
  simpa using this
theorem RowI.frm {w w' : World} {S : Nat → Prop} {g : Nat} {L : List Int} (h : RowI w g L) (f : Frm S w w') (hS : ¬ S g) : RowI w' g L := f.blk h hS
theorem RowI.free {w : World} {g : Nat} {L : List Int} (h : RowI w g L) (j : Nat) : w.frozen? ((⟨g, 0, none⟩ : Addr).add j) = false := by
  have ea : (⟨g, 0, none⟩ : Addr).add j = ⟨g, j, none⟩ := by unfold Addr.add; by_cases h0 : j = 0 <;> simp [h0]
  rw [ea]; exact Blk.free h j

def leftTo (U : List US) (W : List Wn) : Nat → List Int
  | 0 => List.replicate U.length 0
  | j + 1 => (leftTo U W j).set (fi U (W.getD j (0, 0)).1) (W.getD j (0, 0)).2
theorem leftTo_len (U : List US) (W : List Wn) : ∀ j, (leftTo U W j).length = U.length
  | 0 => by simp [leftTo]
  | j + 1 => by unfold leftTo; rw [List.length_set]; exact leftTo_len U W j
theorem made_zero (n : Nat) : madeCells (Value.int .i64 0).cells (n * 1) = ((List.replicate n (0 : Int)).map (Value.int .i64)).toArray := by
  unfold madeCells
  apply Array.ext
  · simp
  · intro i h1 h2
    simp [Value.cells, Nat.mod_one]

theorem find_is (w : World) (B g : Nat) (U : List US) (x : Int) (f : Nat) (h : IsS w B g U) (hf : fi U x = f) (hl : f < U.length) : Calls Try.prog 17 #[.pointer (some ⟨g, 0, none⟩), .int .i64 x] w fun e w' => e = .returned (.int .i64 f) ∧ w' = w := by
  have := find_any w B g U x h
  rw [show fiV U x = (f : Int) by unfold fiV; rw [hf, if_pos hl]] at this
  exact this
theorem IsS.gl {w w' : World} {B g gl : Nat} {U : List US} {L : List Int} (h : IsS w B g U) (hr : RowI w gl L) (f : Frm (fun x => x = gl) w w') : IsS w' B g U :=
  h.frm f (fun k cs t ht hb e => by subst e; exact Blk.ne hb hr (by rcases ht with rfl | rfl <;> decide) rfl)

set_option maxRecDepth 100000 in
set_option maxHeartbeats 4000000 in
theorem left_ok (w : World) (B g : Nat) (U : List US) (A : Option Addr) (n c : Nat) (W : List Wn) (h : IsS w B g U) (hW : RdW w A W) (hn : W.length = n) (hn2 : n ≤ 1000) (hin : ∀ j, j < n → fi U (W.getD j (0, 0)).1 < U.length) :
    Calls Try.prog 19 #[.pointer (some ⟨g, 0, none⟩), .slice A n c] w fun e w' => e = .returned (.slice (some ⟨w.heap.size, 0, none⟩) U.length U.length) ∧ RowI w' w.heap.size (leftTo U W n) ∧ Frm No w w' := by
  have info3 : (Try.prog.info? 3).map (fun i => (i.zero, i.size, i.bytes)) = some (some (.int .i64 0), 1, 8) := by kernel_rfl
  obtain ⟨i0, hi, hz0, hz1, hz2⟩ := info_parts info3
  have h16 := h.1
  obtain ⟨m, hm⟩ : ∃ m, U.length = m := ⟨_, rfl⟩
  have hmk : ∀ w', (Instr.makeSlice 22 (.int .i64 (m : Int)) (.int .i64 (m : Int))).run Try.prog w' = .ok (.slice (some ⟨w'.heap.size, 0, none⟩) m m) (w'.alloc (.cells ((List.replicate m (0 : Int)).map (Value.int .i64)).toArray 3)) := fun w' => by
    have := run_make (P := Try.prog) w' 22 3 i0 _ Try.underlying22 hi hz0 .i64 .i64 (m : Int) (m : Int) (by omega) (by omega) (by rw [hz2]; omega) (by omega)
    rw [hz1, Int.toNat_natCast, made_zero] at this
    exact this
  have F0 := (Frm.refl No w).alloc (.cells ((List.replicate m (0 : Int)).map (Value.int .i64)).toArray 3)
  have r0 : RowI (w.alloc (.cells ((List.replicate m (0 : Int)).map (Value.int .i64)).toArray 3)) w.heap.size (List.replicate m 0) := Blk.new _ _ _
  have h0 := h.alloc (.cells ((List.replicate m (0 : Int)).map (Value.int .i64)).toArray 3)
  have HW := Lib.hid hW
  obtain ⟨hq16, v, hb, ho⟩ := h
  obtain ⟨A1, c1, rfl, hr⟩ := rdU_of ho
  rw [hm] at hb h16 hin
  have k1 : w.cell? ⟨g, 1, none⟩ = some (.slice A1 m c1) := hb.cell 1
  have HM := Lib.hid hm
  have HIN := Lib.hid hin
  have R0 := Lib.hid r0
  have H0 := Lib.hid h0
  have FF := Lib.hid F0
  rw [hm]
  clear hb ho hr hm hin r0 h0 F0 hW
  generalize ((List.replicate m (0 : Int)).map (Value.int .i64)).toArray = z0 at *
  go_enter Try.func19, Try.ntmps19
  go_wp2_with fail
  generalize w.alloc (.cells z0 3) = w2 at *
  obtain ⟨gl, hgl⟩ : ∃ gl, w.heap.size = gl := ⟨_, rfl⟩
  rw [hgl] at R0
  try rw [hgl]
  have hgw : w.heap.size ≤ gl := by omega
  have HG := Lib.hid hgl
  clear hgl
  go_loopw [16] (fun vi wr => ∃ j : Nat, vi = .int .i64 j ∧ j ≤ n ∧ RowI wr gl (leftTo U W j) ∧ Frm No w wr ∧ Frm (fun x => x = gl) w2 wr) (fun vi _ => n - (intOf vi).toNat)
  case atStart => exact ⟨0, rfl, by omega, by unfold leftTo; rw [HM.out]; exact R0.out, FF.out, Frm.refl _ _⟩
  case round =>
    obtain ⟨j, rfl, hj, hR, F, G⟩ := hrel
    have j0 : (0 : Int) ≤ (j : Int) := Int.natCast_nonneg _
    by_cases hlt : j < n
    · have j1 : (j : Int) < (n : Int) := by omega
      obtain ⟨ad, rfl, -, k0, k2⟩ := (HW.out.frmN F) j (by omega)
      have hfl := HIN.out j hlt
      have hstep : leftTo U W (j + 1) = (leftTo U W j).set (fi U (W.getD j (0, 0)).1) (W.getD j (0, 0)).2 := rfl
      have hll := leftTo_len U W j
      obtain ⟨⟨p, q⟩, hp⟩ : ∃ u, W.getD j (0, 0) = u := ⟨_, rfl⟩
      rw [hp] at k0 k2 hfl hstep
      simp only at k0 k2 hfl hstep
      obtain ⟨f, hf⟩ : ∃ f, fi U p = f := ⟨_, rfl⟩
      rw [hf] at hfl hstep
      have hS := H0.out.gl R0.out G
      have hS1 := hS.alloc (.cells #[.int .i64 p, .int .i64 q] 35)
      have HF := Lib.hid (And.intro hf (show f < U.length by rw [HM.out]; exact hfl))
      have hR1 : RowI (wr.alloc (.cells #[.int .i64 p, .int .i64 q] 35)) gl (leftTo U W j) := Blk.alloc hR _
      have hlw : gl < wr.heap.size := Blk.lt hR
      have cf : wr.cell? ⟨gl, f, none⟩ = some (.int .i64 ((leftTo U W j).getD f 0)) := by
        rw [Blk.cell hR]
        simp [List.getElem?_eq_getElem (show f < (leftTo U W j).length by rw [hll, HM.out]; exact hfl), List.getD_eq_getElem?_getD]
      have zf := Blk.free hR f
      have f0 : (0 : Int) ≤ (f : Int) := Int.natCast_nonneg _
      have f1 : (f : Int) < (m : Int) := by omega
      have fin : RowI ((wr.setCell ⟨gl, f, none⟩ (.int .i64 q)).alloc (.cells #[.int .i64 p, .int .i64 q] 35)).drew gl ((leftTo U W j).set f q) := by
        have := Blk.alloc (Blk.set hR f (.int .i64 q)) (.cells #[.int .i64 p, .int .i64 q] 35)
        unfold RowI
        rw [List.map_set]
        simpa using Blk.drew this
      have F3 := ((F.set (p := ⟨gl, f, none⟩) (.inr hgw) (.int .i64 q)).alloc (.cells #[.int .i64 p, .int .i64 q] 35)).drew
      have G3 := ((G.set (p := ⟨gl, f, none⟩) (.inl rfl) (.int .i64 q)).alloc (.cells #[.int .i64 p, .int .i64 q] 35)).drew
      have FIN := Lib.hid (And.intro fin (And.intro F3 G3))
      have HST := Lib.hid hstep
      clear hp hf hstep hll fin F3 G3 F G hS hR1 hR
      go_wp2_with fail
      go_region_law ((go_simp; go_at_call 17; refine (find_is _ B g U p f (by exact hS1) HF.out.1 HF.out.2).mono ?_; rintro e w8 ⟨rfl, rfl⟩))
      all_goals
        go_wp2_with fail
        go_roundw
        case rel => exact ⟨j + 1, by go_num, by omega, by rw [HST.out]; exact FIN.out.1, FIN.out.2.1, FIN.out.2.2⟩
        case measure => simp [intOf]; omega
    · have j1 : ¬ (j : Int) < (n : Int) := by omega
      have hjn : j = n := by omega
      subst hjn
      go_wp2_with fail
      go_ret
      have e := HG.out
      subst e
      exact ⟨rfl, hR, F⟩
end Go.Proofs.Ytiifepajnhdfjaa.A
