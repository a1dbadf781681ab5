/- The document's Turn; points made of small numbers. -/
import Derived.Test.YtbhkhabkkghapaaRF
import Derived.Deep.RegionLaw
namespace Go.Proofs.Ytbhkhabkkghapaa.A
open Go.RowKit Go.Proofs.Ytbhkhabkkghapaa.K Go.Proofs.Ytbhkhabkkghapaa.F Go.Proofs.Ytbhkhabkkghapaa.N
set_option linter.unusedVariables false
set_option linter.unusedSimpArgs false

theorem tmod4 (k : Int) : (k.tmod 4 < 0 ∧ ((qn k : Nat) : Int) = k.tmod 4 + 4) ∨ (0 ≤ k.tmod 4 ∧ ((qn k : Nat) : Int) = k.tmod 4) := by
  have h1 : k.tmod 4 = k - 4 * k.tdiv 4 := by have := Int.mul_tdiv_add_tmod k 4; omega
  have h2 := Int.tmod_lt_of_pos k (show (0 : Int) < 4 by omega)
  have h3 : -4 < k.tmod 4 := by
    have := Int.tmod_lt_of_pos (-k) (show (0 : Int) < 4 by omega)
    rw [Int.neg_tmod] at this; omega
  unfold qn
  omega
theorem turnp_succ (i : Nat) (p : Pt) : turnp (i + 1) p = qt (turnp i p) := by rw [← turnp_qt]; rfl
theorem sub_run (y : Int) (h : y = 1 ∨ y = -1) (t : TypeId) (w : World) : (binOp .sub t (.float .f64 0) (.float .f64 (FI y))).run Try.prog w = .ok (.float .f64 (FI (-y))) w :=
  run_float_arith w .sub t .f64 _ _ _ (zero_sub y h)

def RtRel (w : World) (p : Pt) (q : Nat) (vi : Value) (wr : World) : Prop :=
  ∃ i : Nat, vi = .int .i64 i ∧ i ≤ q ∧ Blk wr w.heap.size #[.float .f64 (FI (turnp i p).1), .float .f64 (FI (turnp i p).2)] 62 ∧ Blk wr (w.heap.size + 1) #[.float .f64 0, .float .f64 0] 62 ∧ Frm No w wr

theorem rturn_loop : True := trivial
set_option maxRecDepth 100000 in
set_option maxHeartbeats 2000000 in
theorem rturn_is (p : Pt) (k : Int) (w : World) (h4 : Four p) : Calls Try.prog 34 #[.agg #[.float .f64 (FI p.1), .float .f64 (FI p.2)], .int .i64 k] w fun e w' => e = .returned (.agg #[.float .f64 (FI (turnp (qn k) p).1), .float .f64 (FI (turnp (qn k) p).2)]) ∧ Frm No w w' := by
  have hst := store_fl
  have b0 : Blk ((w.alloc (.cells #[.float .f64 (FI p.1), .float .f64 (FI p.2)] 62)).alloc (.cells #[.float .f64 0, .float .f64 0] 62)) w.heap.size #[.float .f64 (FI p.1), .float .f64 (FI p.2)] 62 := (Blk.new w _ 62).alloc _
  have b1 : Blk ((w.alloc (.cells #[.float .f64 (FI p.1), .float .f64 (FI p.2)] 62)).alloc (.cells #[.float .f64 0, .float .f64 0] 62)) (w.heap.size + 1) #[.float .f64 0, .float .f64 0] 62 := by
    have := Blk.new (w.alloc (.cells #[.float .f64 (FI p.1), .float .f64 (FI p.2)] 62)) #[.float .f64 0, .float .f64 0] 62
    rwa [show (w.alloc (.cells #[.float .f64 (FI p.1), .float .f64 (FI p.2)] 62)).heap.size = w.heap.size + 1 by simp] at this
  have F0 := ((Frm.refl No w).alloc (.cells #[.float .f64 (FI p.1), .float .f64 (FI p.2)] 62)).alloc (.cells #[.float .f64 0, .float .f64 0] 62)
  have hq := qn_lt k
  have ht := tmod4 k
  obtain ⟨q, hqe⟩ : ∃ q, qn k = q := ⟨_, rfl⟩
  rw [hqe] at hq ht ⊢
  obtain ⟨r, hr⟩ : ∃ r, k.tmod 4 = r := ⟨_, rfl⟩
  rw [hr] at ht
  have B0 := Lib.hid b0
  have B1 := Lib.hid b1
  have FF := Lib.hid F0
  clear b0 b1 F0
  rcases ht with ⟨hneg, hqr⟩ | ⟨hneg, hqr⟩
  · have hr4 : r + 4 = (q : Int) := hqr.symm
    have hr5 : -4 ≤ r := by omega
    clear hqr
    go_enter Try.func34, Try.ntmps34
    go_wp2_with fail
    generalize ((w.alloc (.cells #[.float .f64 (FI p.1), .float .f64 (FI p.2)] 62)).alloc (.cells #[.float .f64 0, .float .f64 0] 62)) = w2 at *
    go_loopw [5] (fun vi wr => RtRel w p q vi wr) (fun vi _ => q - (intOf vi).toNat)
    case atStart => exact ⟨0, rfl, by omega, B0.out, B1.out, FF.out⟩
    case round =>
      obtain ⟨i, rfl, hi, b0, b1, hF⟩ := hrel
      have i0 : (0 : Int) ≤ (i : Int) := Int.natCast_nonneg _
      have hsc := turnp_succ i p
      have hfp := turn_four i h4
      obtain ⟨⟨x, y⟩, hp⟩ : ∃ u, turnp i p = u := ⟨_, rfl⟩
      have HP := Lib.hid hp
      rw [hp] at b0 hsc hfp
      simp only at b0
      have c0 : wr.cell? ⟨w.heap.size, 0, none⟩ = some (.float .f64 (FI x)) := b0.cell 0
      have c1 : wr.cell? ⟨w.heap.size, 1, none⟩ = some (.float .f64 (FI y)) := b0.cell 1
      have z0 := b0.free 0
      have z1 := b0.free 1
      have HSC := Lib.hid hsc
      clear hp hsc
      by_cases hlt : i < q
      · have i1 : (i : Int) < (q : Int) := by omega
        have hsub := fun w' => sub_run y hfp.2 60 w'
        have n0 := (b0.set 0 (.float .f64 (FI (-y)))).set 1 (.float .f64 (FI x))
        have n1 : Blk ((wr.setCell ⟨w.heap.size, 0, none⟩ (.float .f64 (FI (-y)))).setCell ⟨w.heap.size, 1, none⟩ (.float .f64 (FI x))) (w.heap.size + 1) #[.float .f64 0, .float .f64 0] 62 := (Blk.other b1 (by simp) _).other (by simp) _
        have nF : Frm No w ((wr.setCell ⟨w.heap.size, 0, none⟩ (.float .f64 (FI (-y)))).setCell ⟨w.heap.size, 1, none⟩ (.float .f64 (FI x))) := (hF.fresh (Nat.le_refl _) _ _).fresh (Nat.le_refl _) _ _
        have N0 := Lib.hid n0
        have N1 := Lib.hid n1
        have NF := Lib.hid nF
        clear n0 n1 nF b0 b1 hF
        go_wp2_with fail
        go_roundw
        case rel => exact ⟨i + 1, by go_num, by omega, by rw [HSC.out]; exact N0.out, N1.out, NF.out⟩
        case measure => simp [intOf]; omega
      · have i1 : ¬ (i : Int) < (q : Int) := by omega
        have hiq : i = q := by omega
        have d0 : wr.cell? ⟨w.heap.size + 1, 0, none⟩ = some (.float .f64 0) := b1.cell 0
        have d1 : wr.cell? ⟨w.heap.size + 1, 1, none⟩ = some (.float .f64 0) := b1.cell 1
        have y0 := b1.free 0
        have y1 := b1.free 1
        have nF : Frm No w ((wr.setCell ⟨w.heap.size + 1, 0, none⟩ (.float .f64 (FI x))).setCell ⟨w.heap.size + 1, 1, none⟩ (.float .f64 (FI y))) := (hF.fresh (Nat.le_succ _) _ _).fresh (Nat.le_succ _) _ _
        have NF := Lib.hid nF
        have HIQ := Lib.hid hiq
        clear nF b0 b1 hF hiq
        go_wp2_with fail
        refine bodyPost_ret (by simp [results, Try.results34, go_sem, *]; try rfl) rfl ?_
        exact ⟨by rw [← HIQ.out, HP.out], NF.out⟩
  · have hr4 : r = (q : Int) := hqr.symm
    subst hr4
    clear hqr
    go_enter Try.func34, Try.ntmps34
    go_wp2_with fail
    generalize ((w.alloc (.cells #[.float .f64 (FI p.1), .float .f64 (FI p.2)] 62)).alloc (.cells #[.float .f64 0, .float .f64 0] 62)) = w2 at *
    go_loopw [5] (fun vi wr => RtRel w p q vi wr) (fun vi _ => q - (intOf vi).toNat)
    case atStart => exact ⟨0, rfl, by omega, B0.out, B1.out, FF.out⟩
    case round =>
      obtain ⟨i, rfl, hi, b0, b1, hF⟩ := hrel
      have i0 : (0 : Int) ≤ (i : Int) := Int.natCast_nonneg _
      have hsc := turnp_succ i p
      have hfp := turn_four i h4
      obtain ⟨⟨x, y⟩, hp⟩ : ∃ u, turnp i p = u := ⟨_, rfl⟩
      have HP := Lib.hid hp
      rw [hp] at b0 hsc hfp
      simp only at b0
      have c0 : wr.cell? ⟨w.heap.size, 0, none⟩ = some (.float .f64 (FI x)) := b0.cell 0
      have c1 : wr.cell? ⟨w.heap.size, 1, none⟩ = some (.float .f64 (FI y)) := b0.cell 1
      have z0 := b0.free 0
      have z1 := b0.free 1
      have HSC := Lib.hid hsc
      clear hp hsc
      by_cases hlt : i < q
      · have i1 : (i : Int) < (q : Int) := by omega
        have hsub := fun w' => sub_run y hfp.2 60 w'
        have n0 := (b0.set 0 (.float .f64 (FI (-y)))).set 1 (.float .f64 (FI x))
        have n1 : Blk ((wr.setCell ⟨w.heap.size, 0, none⟩ (.float .f64 (FI (-y)))).setCell ⟨w.heap.size, 1, none⟩ (.float .f64 (FI x))) (w.heap.size + 1) #[.float .f64 0, .float .f64 0] 62 := (Blk.other b1 (by simp) _).other (by simp) _
        have nF : Frm No w ((wr.setCell ⟨w.heap.size, 0, none⟩ (.float .f64 (FI (-y)))).setCell ⟨w.heap.size, 1, none⟩ (.float .f64 (FI x))) := (hF.fresh (Nat.le_refl _) _ _).fresh (Nat.le_refl _) _ _
        have N0 := Lib.hid n0
        have N1 := Lib.hid n1
        have NF := Lib.hid nF
        clear n0 n1 nF b0 b1 hF
        go_wp2_with fail
        go_roundw
        case rel => exact ⟨i + 1, by go_num, by omega, by rw [HSC.out]; exact N0.out, N1.out, NF.out⟩
        case measure => simp [intOf]; omega
      · have i1 : ¬ (i : Int) < (q : Int) := by omega
        have hiq : i = q := by omega
        have d0 : wr.cell? ⟨w.heap.size + 1, 0, none⟩ = some (.float .f64 0) := b1.cell 0
        have d1 : wr.cell? ⟨w.heap.size + 1, 1, none⟩ = some (.float .f64 0) := b1.cell 1
        have y0 := b1.free 0
        have y1 := b1.free 1
        have nF : Frm No w ((wr.setCell ⟨w.heap.size + 1, 0, none⟩ (.float .f64 (FI x))).setCell ⟨w.heap.size + 1, 1, none⟩ (.float .f64 (FI y))) := (hF.fresh (Nat.le_succ _) _ _).fresh (Nat.le_succ _) _ _
        have NF := Lib.hid nF
        have HIQ := Lib.hid hiq
        clear nF b0 b1 hF hiq
        go_wp2_with fail
        refine bodyPost_ret (by simp [results, Try.results34, go_sem, *]; try rfl) rfl ?_
        exact ⟨by rw [← HIQ.out, HP.out], NF.out⟩
end Go.Proofs.Ytbhkhabkkghapaa.A
