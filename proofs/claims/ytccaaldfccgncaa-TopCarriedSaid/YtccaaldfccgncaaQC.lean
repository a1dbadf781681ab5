/- The queue: Take. -/
import Derived.Test.YtccaaldfccgncaaQB
namespace Go.Proofs.Ytccaaldfccgncaa.A
open Go.RowKit Go.Proofs.Ytccaaldfccgncaa.K
set_option linter.unusedVariables false
set_option linter.unusedSimpArgs false

set_option maxRecDepth 100000 in
set_option maxHeartbeats 4000000 in
theorem take_some (w : World) (g : Nat) (rm : Int) (t : Tx) (R : List Tx) (tk n : Nat) (ls byt : Int) (h : IsQ w g rm (t :: R) tk ls byt) (h1 : 0 < rm) (n1 : 1 ≤ n) (hk : tk + n ≤ t.bs.length) (hm9 : R.length ≤ 900) (hn9 : t.bs.length ≤ 10000) (b0 : -1000000 ≤ byt) (b1 : byt ≤ 1000000) :
    Calls Try.prog 24 #[.pointer (some ⟨g, 0, none⟩), .int .i64 n] w fun e w' => ∃ v, e = .returned (.tuple #[v, .bool (decide (tk + n = t.bs.length)), .int .i64 0]) ∧ RowB w' w.heap.size v ((t.bs.drop tk).take n) ∧
      IsQ w' g rm (if tk + n = t.bs.length then R else t :: R) (if tk + n = t.bs.length then 0 else tk + n) ls (byt - n) ∧ Frm (fun x => x = g) w w' := by
  have hmd := made_is w g rm (t :: R) tk ls byt h h1
  obtain ⟨v, hb, ho, ht⟩ := h
  obtain ⟨k, c, rfl, hc, x0, x1, cs, hbk⟩ := first_tx ho
  obtain ⟨A, cA, hv, hcA, hbin⟩ := (ht t (List.mem_cons_self ..)).out
  rw [hv] at x1
  obtain ⟨n0, hnn⟩ : ∃ n0, t.bs.length = n0 := ⟨_, rfl⟩
  have hcut := hbin.bin.cut (show tk ≤ t.bs.length by omega) hcA
  have hln : ((t.bs.drop tk).take n).length = n := by rw [List.length_take, List.length_drop]; omega
  rw [hnn] at hk x1 hn9 hcA ⊢
  have hsl := fun W => slice_l Try.underlying24 size5 A n0 cA tk (by omega) W
  obtain ⟨A2, hA2⟩ : ∃ A2, cutA A tk 1 cA = A2 := ⟨_, rfl⟩
  rw [hA2] at hsl hcut
  obtain ⟨l, hl⟩ : ∃ l, n0 - tk = l := ⟨_, rfl⟩
  obtain ⟨cl, hcl⟩ : ∃ cl, cA - tk = cl := ⟨_, rfl⟩
  rw [hl, hcl] at hsl
  have hsl2 := fun W => slice_hm Try.underlying24 size5 A2 l cl n (by omega) W
  obtain ⟨m, hmm⟩ : ∃ m, R.length + 1 = m := ⟨_, rfl⟩
  have hsl3 : ∀ W, (Instr.slice 62 (.slice (some ⟨k, 0, none⟩) m c) (some (.int .i64 1)) none none).run Try.prog W = .ok (.slice (cutA (some ⟨k, 0, none⟩) 1 2 c) (m - 1) (c - 1)) W := fun W => slice_l Try.underlying62 size70 (some ⟨k, 0, none⟩) m c 1 (by omega) W
  obtain ⟨A7, hA7⟩ : ∃ A7, cutA (some ⟨k, 0, none⟩) 1 2 c = A7 := ⟨_, rfl⟩
  rw [hA7] at hsl3
  have hrd7 : RdT w 70 2 A7 (m - 1) (R.flatMap Tx.cells) := by
    have := (RdT.of_own ho).drop (k := 1) (cap := c) (by omega) (by omega)
    rw [tx_drop] at this
    rw [← hA7, ← hmm]
    exact this
  have m1 : (1 : Int) ≤ (m : Int) := by omega
  have m2 : (m : Int) ≤ 901 := by omega
  have m0 : ¬ m = 0 := by omega
  have m3 : 0 < m := by omega
  rw [hmm] at hb
  have c1 : w.cell? ⟨g, 1, none⟩ = some (.slice (some ⟨k, 0, none⟩) m c) := hb.cell 1
  have c2 : w.cell? ⟨g, 2, none⟩ = some (.int .i64 tk) := hb.cell 2
  have q1 : (1 : Int) ≤ (n : Int) := by omega
  have q2 : (n : Int) ≤ (l : Int) := by omega
  have q3 : (l : Int) ≤ 10000 := by omega
  have t0 : (0 : Int) ≤ (tk : Int) := Int.natCast_nonneg _
  have t9 : (tk : Int) ≤ 10000 := by omega
  have pw1 : IntKind.i64.wrap ((tk : Int) + (n : Int)) = (tk : Int) + (n : Int) := IntWalk.i64_in _ ⟨by omega, by omega⟩
  have pw2 : IntKind.i64.wrap (byt - (n : Int)) = byt - (n : Int) := IntWalk.i64_in _ ⟨by omega, by omega⟩
  have hlim : tk + n = n0 ↔ n = l := by omega
  have n0' : ¬ n = 0 := by omega
  have H := Lib.hid (And.intro hb (And.intro ho (And.intro ht (And.intro hcut (And.intro hln (And.intro hrd7 (And.intro hmm hlim)))))))
  clear hb ho ht hv hbin hbk hA2 hnn hmm hcut hln hl hcl hA7 hrd7 hlim hk hc hcA
  go_enter Try.func24, Try.ntmps24
  go_wp2_with fail
  refine hmd.mono ?_
  rintro e w1 ⟨rfl, hwx⟩
  have hwx2 := hwx.symm
  clear hwx
  subst hwx2
  go_wp2_with fail
  go_quiet (fail)
  obtain ⟨wd, hwd⟩ : ∃ wd, w.drewN nq = wd := ⟨_, rfl⟩
  have Fd : Frm No w wd := by rw [← hwd]; exact (Frm.refl No w).drewN nq
  rw [hwd]
  clear c1 c2 x0 x1 hwd
  go_wp2_with fail
  refine (cloneB wd A2 n n ((t.bs.drop tk).take n) ((H.out.2.2.2.1.frmN Fd).take n) H.out.2.2.2.2.1 (by omega)).mono ?_
  rintro e w6 ⟨v6, rfl, R6, F6⟩
  have F06 := Fd.thenN F6
  have hb6 := F06.blk H.out.1 (fun h => h)
  have y1 : w6.cell? ⟨g, 1, none⟩ = some (.slice (some ⟨k, 0, none⟩) m c) := hb6.cell 1
  have y2 : w6.cell? ⟨g, 2, none⟩ = some (.int .i64 tk) := hb6.cell 2
  have y4 : w6.cell? ⟨g, 4, none⟩ = some (.int .i64 byt) := hb6.cell 4
  have z1 : w6.frozen? ⟨g, 1, none⟩ = false := hb6.free 1
  have z2 : w6.frozen? ⟨g, 2, none⟩ = false := hb6.free 2
  have z4 : w6.frozen? ⟨g, 4, none⟩ = false := hb6.free 4
  have hgl6 := hb6.lt
  have hsd : wd.heap.size = w.heap.size ∨ w.heap.size ≤ wd.heap.size := .inr Fd.size
  have H6 := Lib.hid (And.intro (R6.lower Fd.size) (And.intro F06 hb6))
  clear R6 F06 hb6 F6 hsd Fd
  have x70 : ∀ x cs, Blk w x cs 70 → ¬ (x = g) := fun x cs hx e => by subst e; exact Blk.ne hx H.out.1 (by decide) rfl
  have x5 : ∀ x cs, Blk w x cs 5 → ¬ (x = g) := fun x cs hx e => by subst e; exact Blk.ne hx H.out.1 (by decide) rfl
  have x5' : ∀ x cs, Blk w6 x cs 5 → ¬ (x = g) := fun x cs hx e => by subst e; exact Blk.ne hx H6.out.2.2 (by decide) rfl
  have HX := Lib.hid (And.intro x70 (And.intro x5 x5'))
  clear x70 x5 x5'
  obtain ⟨A6, c6, rfl, hc6, -⟩ := H6.out.1.outn H.out.2.2.2.2.1
  by_cases hnl : n = l
  · have hnl' : ¬ (n : Int) < (l : Int) := by omega
    have he : tk + n = _ := H.out.2.2.2.2.2.2.2.2 hnl
    have HE := Lib.hid he
    clear hnl he
    go_wp2_with fail
    have FS : Frm (fun x => x = g) w6 ((w6.setCell ⟨g, 2, none⟩ (.int .i64 ((tk : Int) + n))).setCell ⟨g, 4, none⟩ (.int .i64 (byt - n))) := ((Frm.refl (fun x => x = g) w6).self 2 _).self 4 _
    have FA := (H6.out.2.1.mono (fun _ h => h.elim) : Frm (fun x => x = g) w w6).trans FS
    have hbS := (H6.out.2.2.set 2 (.int .i64 ((tk : Int) + n))).set 4 (.int .i64 (byt - n))
    have hrd := (H.out.2.2.2.2.2.1.frm FA HX.out.1).1
    obtain ⟨wS, hwS⟩ : ∃ wS, (w6.setCell ⟨g, 2, none⟩ (.int .i64 ((tk : Int) + n))).setCell ⟨g, 4, none⟩ (.int .i64 (byt - n)) = wS := ⟨_, rfl⟩
    rw [hwS] at FA hbS hrd FS ⊢
    have HS := Lib.hid (And.intro FA (And.intro hbS FS))
    clear FA hbS FS y1 y2 y4 z1 z2 z4 hgl6
    refine (cloneT wS A7 (m - 1) (c - 1) R hrd (by omega)).mono ?_
    rintro e w7 ⟨v7, rfl, own7, F7⟩
    have hb7 := F7.blk HS.out.2.1 (fun h => h)
    have z1 : w7.frozen? ⟨g, 1, none⟩ = false := hb7.free 1
    have z2 : w7.frozen? ⟨g, 2, none⟩ = false := hb7.free 2
    have y1 : w7.cell? ⟨g, 1, none⟩ = some (.slice (some ⟨k, 0, none⟩) m c) := hb7.cell 1
    have y2 : w7.cell? ⟨g, 2, none⟩ = some (.int .i64 ((tk : Int) + n)) := hb7.cell 2
    have hgl7 := hb7.lt
    have H7 := Lib.hid (And.intro (own_lower own7 (Nat.zero_le _)) (And.intro F7 hb7))
    clear own7 F7 hb7 hwS hrd
    obtain ⟨A8, c8, rfl, -, -⟩ := own_is H7.out.1
    go_wp2_with fail
    go_ret3
    try rw [if_pos HE.out, if_pos HE.out]
    try rw [decide_eq_true HE.out]
    have FT : Frm (fun x => x = g) w7 ((w7.setCell ⟨g, 2, none⟩ (.int .i64 0)).setCell ⟨g, 1, none⟩ (.slice A8 (m - 1) c8)) := ((Frm.refl (fun x => x = g) w7).self 2 _).self 1 _
    have FB := (HS.out.1.thenN H7.out.2.1).trans FT
    have y70 : ∀ x cs, Blk w7 x cs 70 → ¬ (x = g) := fun x cs hx e => by subst e; exact Blk.ne hx H7.out.2.2 (by decide) rfl
    refine ⟨_, rfl, ?_, ⟨_, (H7.out.2.2.set 2 _).set 1 _, ?_, fun t ht => own_frm (H.out.2.2.1 t (List.mem_cons_of_mem _ ht)) FB HX.out.2.1⟩, FB⟩
    · exact own_frm H6.out.1 ((HS.out.2.2.thenN H7.out.2.1).trans FT) HX.out.2.2
    · have := own_frm H7.out.1 FT y70
      rw [show R.length = m - 1 by have := H.out.2.2.2.2.2.2.1; omega]
      exact this
  · have hnl' : (n : Int) < (l : Int) := by omega
    have he : ¬ tk + n = _ := fun e => hnl (H.out.2.2.2.2.2.2.2.1 e)
    have HE := Lib.hid he
    clear hnl he
    go_wp2_with fail
    go_ret3
    have FS : Frm (fun x => x = g) w6 ((w6.setCell ⟨g, 2, none⟩ (.int .i64 ((tk : Int) + n))).setCell ⟨g, 4, none⟩ (.int .i64 (byt - n))) := ((Frm.refl (fun x => x = g) w6).self 2 _).self 4 _
    have FA := (H6.out.2.1.mono (fun _ h => h.elim) : Frm (fun x => x = g) w w6).trans FS
    try rw [if_neg HE.out, if_neg HE.out]
    try rw [decide_eq_false HE.out]
    refine ⟨_, rfl, ?_, ⟨_, (H6.out.2.2.set 2 _).set 4 _, ?_, fun t ht => own_frm (H.out.2.2.1 t ht) FA HX.out.2.1⟩, FA⟩
    · exact own_frm H6.out.1 FS HX.out.2.2
    · have := own_frm H.out.2.1 FA HX.out.1
      rw [H.out.2.2.2.2.2.2.1] at this
      exact this
end Go.Proofs.Ytccaaldfccgncaa.A
