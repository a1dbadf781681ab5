/- What ask asks. -/
import Derived.Test.YtiifepajnhdfjaaB
namespace Go.Proofs.Ytiifepajnhdfjaa.A
open Go.RowKit Go.Proofs.Ytiifepajnhdfjaa.K
set_option linter.unusedVariables false
set_option linter.unusedSimpArgs false

theorem gone_is (w : World) (B g pc : Nat) (U : List US) (i b : Int) (h : IsS w B g U) (hb : Blk w pc #[.pointer (some ⟨g, 0, none⟩)] 24) :
    Calls Try.prog 29 #[.agg #[.int .i64 i, .int .i64 b], .pointer (some ⟨pc, 0, none⟩)] w fun e w' => e = .returned (.bool (decide (fiV U i < 0))) ∧ Frm No w w' := by
  have F0 := (Frm.refl No w).alloc (.cells #[.int .i64 i, .int .i64 b] 35)
  have h1 := h.alloc (.cells #[.int .i64 i, .int .i64 b] 35)
  have c0 : w.cell? ⟨pc, 0, none⟩ = some (.pointer (some ⟨g, 0, none⟩)) := hb.cell 0
  have hlt := hb.lt
  have hf := find_any _ B g U i h1
  obtain ⟨r, hr⟩ : ∃ r, fiV U i = r := ⟨_, rfl⟩
  rw [hr] at hf ⊢
  clear h h1 hr
  go_enter Try.func29, Try.ntmps29
  go_wp2_with fail
  refine hf.mono ?_
  rintro e w1 ⟨rfl, rfl⟩
  go_wp2_with fail
  go_ret
  exact ⟨rfl, F0⟩
theorem twin_is (w : World) (pc : Nat) (i b i2 b2 : Int) (hb : Blk w pc #[.int .i64 i2, .int .i64 b2] 35) :
    Calls Try.prog 30 #[.agg #[.int .i64 i, .int .i64 b], .pointer (some ⟨pc, 0, none⟩)] w fun e w' => e = .returned (.bool (i == i2)) ∧ Frm No w w' := by
  have F0 := (Frm.refl No w).alloc (.cells #[.int .i64 i, .int .i64 b] 35)
  have c0 : w.cell? ⟨pc, 0, none⟩ = some (.int .i64 i2) := hb.cell 0
  have hlt := hb.lt
  go_enter Try.func30, Try.ntmps30
  go_wp2_with fail
  go_ret
  exact ⟨rfl, F0⟩

def farB (W : List Wn) : Bool := (List.range W.length).any fun j => decide ((W.getD j (0, 0)).2 < 0 ∨ 1048576 < (W.getD j (0, 0)).2)
def nonB (U : List US) (W : List Wn) : Bool := (List.range W.length).any fun j => decide (fiV U (W.getD j (0, 0)).1 < 0)
def dupAt (W : List Wn) (i : Nat) : Bool := (List.range i).any fun j => (W.getD j (0, 0)).1 == (W.getD i (0, 0)).1
def dupB (W : List Wn) : Bool := (List.range W.length).any (dupAt W)
def askE (U : List US) (t : Int) (W : List Wn) : Int :=
  if t < 0 ∨ 65536 < t then 1 else if farB W = true then 3 else if nonB U W = true then 4 else if dupB W = true then 12 else 0

set_option maxRecDepth 100000 in
set_option maxHeartbeats 4000000 in
theorem ask_any (w : World) (B g : Nat) (U : List US) (t : Int) (A : Option Addr) (n c : Nat) (W : List Wn) (h : IsS w B g U) (hW : RdW w A W) (hn : W.length = n) (hn2 : n ≤ 1000) (hcap : n ≤ c) :
    Calls Try.prog 18 #[.pointer (some ⟨g, 0, none⟩), .int .i64 t, .slice A n c] w fun e w' => e = .returned (.int .i64 (askE U t W)) ∧ Frm No w w' := by
  have F0 := (Frm.refl No w).alloc (.cells #[.pointer (some ⟨g, 0, none⟩)] 24)
  have h0 := h.alloc (.cells #[.pointer (some ⟨g, 0, none⟩)] 24)
  have b0 : Blk (w.alloc (.cells #[.pointer (some ⟨g, 0, none⟩)] 24)) w.heap.size #[.pointer (some ⟨g, 0, none⟩)] 24 := Blk.new _ _ _
  have hW0 := hW.frmN F0
  obtain ⟨r, hr⟩ : ∃ r, askE U t W = r := ⟨_, rfl⟩
  rw [hr]
  unfold askE at hr
  have n9 : (n : Int) ≤ 1000 := by omega
  by_cases ht : t < 0 ∨ 65536 < t
  · rw [if_pos ht] at hr
    subst hr
    clear h hW h0 b0 hW0
    by_cases ht1 : t < 0
    · go_enter Try.func18, Try.ntmps18
      go_wp2_with fail
      go_ret
      exact ⟨rfl, F0⟩
    · have ht2 : 65536 < t := by omega
      go_enter Try.func18, Try.ntmps18
      go_wp2_with fail
      go_ret
      exact ⟨rfl, F0⟩
  · rw [if_neg ht] at hr
    have ht1 : ¬ t < 0 := by omega
    have ht2 : ¬ 65536 < t := by omega
    clear h hW ht
    obtain ⟨f, hf⟩ : ∃ f, farB W = f := ⟨_, rfl⟩
    have k1 := contains_28 (w.alloc (.cells #[.pointer (some ⟨g, 0, none⟩)] 24)) A n c W _ hW0 (by omega) hn2 (fun j hj wr hF => far_is _ _ wr)
    rw [← hn, show (List.range W.length).any (fun j => decide ((W.getD j (0, 0)).2 < 0 ∨ 1048576 < (W.getD j (0, 0)).2)) = f from hf, hn] at k1
    rw [hf] at hr
    go_enter Try.func18, Try.ntmps18
    go_wp2_with fail
    refine k1.mono ?_
    rintro e w1 ⟨rfl, f1⟩
    have F1 := F0.thenN f1
    have h1 := h0.frmN f1
    have b1 := f1.blk b0 (fun h => h)
    have hW1 := hW0.frmN f1
    clear k1 F0 h0 b0 hW0 f1 hf
    cases f with
    | true =>
      rw [if_pos rfl] at hr
      subst hr
      clear h1 b1 hW1
      go_wp2_with fail
      go_ret
      exact ⟨rfl, F1⟩
    | false =>
      rw [if_neg (by decide)] at hr
      obtain ⟨f, hf⟩ : ∃ f, nonB U W = f := ⟨_, rfl⟩
      have k1 := contains_29 w1 A n c w.heap.size W _ hW1 (by omega) hn2 (fun j hj wr hF => gone_is wr B g w.heap.size U _ _ (h1.frmN hF) (hF.blk b1 (fun h => h)))
      rw [← hn, show (List.range W.length).any (fun j => decide (fiV U (W.getD j (0, 0)).1 < 0)) = f from hf, hn] at k1
      rw [hf] at hr
      go_wp2_with fail
      refine k1.mono ?_
      rintro e w2 ⟨rfl, f2⟩
      have F2 := F1.thenN f2
      have hW2 := hW1.frmN f2
      clear k1 F1 h1 b1 hW1 f2 hf
      cases f with
      | true =>
        rw [if_pos rfl] at hr
        subst hr
        clear hW2
        go_wp2_with fail
        go_ret
        exact ⟨rfl, F2⟩
      | false =>
        rw [if_neg (by decide)] at hr
        have HR := Lib.hid hr
        have HW2 := Lib.hid hW2
        clear hr hW2
        go_wp2_with fail
        go_loopw [22] (fun vi wr => ∃ i : Nat, vi = .int .i64 i ∧ i ≤ n ∧ (List.range i).any (dupAt W) = false ∧ Frm No w wr ∧ Frm No w2 wr) (fun vi _ => n - (intOf vi).toNat)
        case atStart => exact ⟨0, rfl, by omega, rfl, F2, Frm.refl _ _⟩
        case round =>
          obtain ⟨i, rfl, hi, hno, F, G⟩ := hrel
          have i0 : (0 : Int) ≤ (i : Int) := Int.natCast_nonneg _
          have HNO := Lib.hid hno
          clear hno
          by_cases hlt : i < n
          · have i1 : (i : Int) < (n : Int) := by omega
            have hWr := HW2.out.frmN G
            obtain ⟨ad, rfl, hbk, k0, k1⟩ := hWr i (by omega)
            obtain ⟨⟨p, q⟩, hp⟩ : ∃ u, W.getD i (0, 0) = u := ⟨_, rfl⟩
            rw [hp] at k0 k1
            simp only at k0 k1
            have b3 : Blk (wr.alloc (.cells #[.int .i64 p, .int .i64 q] 35)) wr.heap.size #[.int .i64 p, .int .i64 q] 35 := Blk.new _ _ _
            have F3 := F.alloc (.cells #[.int .i64 p, .int .i64 q] 35)
            have G3 := G.alloc (.cells #[.int .i64 p, .int .i64 q] 35)
            obtain ⟨f, hf⟩ : ∃ f, dupAt W i = f := ⟨_, rfl⟩
            have kk := contains_30 (wr.alloc (.cells #[.int .i64 p, .int .i64 q] 35)) (some ad) i c wr.heap.size W (fun j => (W.getD j (0, 0)).1 == p) (HW2.out.frmN G3) (by omega) (by omega) (fun j hj wr' hF => twin_is wr' wr.heap.size _ _ p q (hF.blk b3 (fun h => h)))
            have hf' : (List.range i).any (fun j => (W.getD j (0, 0)).1 == p) = f := by rw [← hf]; unfold dupAt; rw [hp]
            rw [hf'] at kk
            have HF := Lib.hid hf
            have ic : (i : Int) ≤ (c : Int) := by omega
            clear hp hf hf' b3 hWr
            go_wp2_with fail
            refine kk.mono ?_
            rintro e w5 ⟨rfl, f5⟩
            cases f with
            | true =>
              have hd : dupB W = true := by
                unfold dupB
                rw [List.any_eq_true]
                exact ⟨i, List.mem_range.2 (by omega), HF.out⟩
              have hr := HR.out
              rw [hd, if_pos rfl] at hr
              subst hr
              go_wp2_with fail
              go_ret
              exact ⟨rfl, F3.thenN f5⟩
            | false =>
              go_wp2_with fail
              go_roundw
              case rel => exact ⟨i + 1, by go_num, by omega, by rw [List.range_succ, List.any_append, HNO.out]; simp [HF.out], F3.thenN f5, G3.thenN f5⟩
              case measure => simp [intOf]; omega
          · have i1 : ¬ (i : Int) < (n : Int) := by omega
            have hin : i = n := by omega
            have hd : dupB W = false := by unfold dupB; rw [hn, ← hin]; exact HNO.out
            have hr := HR.out
            rw [hd, if_neg (by decide)] at hr
            subst hr
            go_wp2_with fail
            go_ret
            exact ⟨rfl, F⟩
end Go.Proofs.Ytiifepajnhdfjaa.A
