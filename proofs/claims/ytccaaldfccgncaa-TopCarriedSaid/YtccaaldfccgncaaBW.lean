/- Build: the walk. -/
import Derived.Test.YtccaaldfccgncaaBM
namespace Go.Proofs.Ytccaaldfccgncaa.A
open Go.RowKit Go.Proofs.Ytccaaldfccgncaa.K
set_option linter.unusedVariables false
set_option linter.unusedSimpArgs false

set_option maxRecDepth 100000 in
theorem fr11a {a : Act} {x0 x1 x2 x6 x7 x12 x13 : Value} (hs : a.tmps.size = 111) (hd : a.defers = []) (h0 : a.tmps.getD 0 undef = x0) (h1 : a.tmps.getD 1 undef = x1) (h2 : a.tmps.getD 2 undef = x2) (h6 : a.tmps.getD 6 undef = x6) (h7 : a.tmps.getD 7 undef = x7) (h12 : a.tmps.getD 12 undef = x12) (h13 : a.tmps.getD 13 undef = x13) : ∃ U : Nat → Value, a = ⟨#[x0, x1, x2, U 3, U 4, U 5, x6, x7, U 8, U 9, U 10, U 11, x12, x13, U 14, U 15, U 16, U 17, U 18, U 19, U 20, U 21, U 22, U 23, U 24, U 25, U 26, U 27, U 28, U 29, U 30, U 31, U 32, U 33, U 34, U 35, U 36, U 37, U 38, U 39, U 40, U 41, U 42, U 43, U 44, U 45, U 46, U 47, U 48, U 49, U 50, U 51, U 52, U 53, U 54, U 55, U 56, U 57, U 58, U 59, U 60, U 61, U 62, U 63, U 64, U 65, U 66, U 67, U 68, U 69, U 70, U 71, U 72, U 73, U 74, U 75, U 76, U 77, U 78, U 79, U 80, U 81, U 82, U 83, U 84, U 85, U 86, U 87, U 88, U 89, U 90, U 91, U 92, U 93, U 94, U 95, U 96, U 97, U 98, U 99, U 100, U 101, U 102, U 103, U 104, U 105, U 106, U 107, U 108, U 109, U 110], []⟩ := by
  have e := act_frame a 111 hs hd
  obtain ⟨f, hf⟩ : ∃ f : Nat → Value, (fun i => a.tmps.getD i undef) = f := ⟨_, rfl⟩
  rw [hf, show ((List.range 111).map f).toArray = #[f 0, f 1, f 2, f 3, f 4, f 5, f 6, f 7, f 8, f 9, f 10, f 11, f 12, f 13, f 14, f 15, f 16, f 17, f 18, f 19, f 20, f 21, f 22, f 23, f 24, f 25, f 26, f 27, f 28, f 29, f 30, f 31, f 32, f 33, f 34, f 35, f 36, f 37, f 38, f 39, f 40, f 41, f 42, f 43, f 44, f 45, f 46, f 47, f 48, f 49, f 50, f 51, f 52, f 53, f 54, f 55, f 56, f 57, f 58, f 59, f 60, f 61, f 62, f 63, f 64, f 65, f 66, f 67, f 68, f 69, f 70, f 71, f 72, f 73, f 74, f 75, f 76, f 77, f 78, f 79, f 80, f 81, f 82, f 83, f 84, f 85, f 86, f 87, f 88, f 89, f 90, f 91, f 92, f 93, f 94, f 95, f 96, f 97, f 98, f 99, f 100, f 101, f 102, f 103, f 104, f 105, f 106, f 107, f 108, f 109, f 110] from rfl] at e
  refine ⟨f, ?_⟩
  have hi : ∀ i, f i = a.tmps.getD i undef := fun i => by rw [← hf]
  rw [e]
  simp only [show f 0 = x0 from (hi 0).trans h0, show f 1 = x1 from (hi 1).trans h1, show f 2 = x2 from (hi 2).trans h2, show f 6 = x6 from (hi 6).trans h6, show f 7 = x7 from (hi 7).trans h7, show f 12 = x12 from (hi 12).trans h12, show f 13 = x13 from (hi 13).trans h13]
set_option maxRecDepth 100000 in
theorem fr11b {a : Act} {x6 x7 x12 : Value} (hs : a.tmps.size = 111) (hd : a.defers = []) (h6 : a.tmps.getD 6 undef = x6) (h7 : a.tmps.getD 7 undef = x7) (h12 : a.tmps.getD 12 undef = x12) : ∃ U : Nat → Value, a = ⟨#[U 0, U 1, U 2, U 3, U 4, U 5, x6, x7, U 8, U 9, U 10, U 11, x12, U 13, U 14, U 15, U 16, U 17, U 18, U 19, U 20, U 21, U 22, U 23, U 24, U 25, U 26, U 27, U 28, U 29, U 30, U 31, U 32, U 33, U 34, U 35, U 36, U 37, U 38, U 39, U 40, U 41, U 42, U 43, U 44, U 45, U 46, U 47, U 48, U 49, U 50, U 51, U 52, U 53, U 54, U 55, U 56, U 57, U 58, U 59, U 60, U 61, U 62, U 63, U 64, U 65, U 66, U 67, U 68, U 69, U 70, U 71, U 72, U 73, U 74, U 75, U 76, U 77, U 78, U 79, U 80, U 81, U 82, U 83, U 84, U 85, U 86, U 87, U 88, U 89, U 90, U 91, U 92, U 93, U 94, U 95, U 96, U 97, U 98, U 99, U 100, U 101, U 102, U 103, U 104, U 105, U 106, U 107, U 108, U 109, U 110], []⟩ := by
  have e := act_frame a 111 hs hd
  obtain ⟨f, hf⟩ : ∃ f : Nat → Value, (fun i => a.tmps.getD i undef) = f := ⟨_, rfl⟩
  rw [hf, show ((List.range 111).map f).toArray = #[f 0, f 1, f 2, f 3, f 4, f 5, f 6, f 7, f 8, f 9, f 10, f 11, f 12, f 13, f 14, f 15, f 16, f 17, f 18, f 19, f 20, f 21, f 22, f 23, f 24, f 25, f 26, f 27, f 28, f 29, f 30, f 31, f 32, f 33, f 34, f 35, f 36, f 37, f 38, f 39, f 40, f 41, f 42, f 43, f 44, f 45, f 46, f 47, f 48, f 49, f 50, f 51, f 52, f 53, f 54, f 55, f 56, f 57, f 58, f 59, f 60, f 61, f 62, f 63, f 64, f 65, f 66, f 67, f 68, f 69, f 70, f 71, f 72, f 73, f 74, f 75, f 76, f 77, f 78, f 79, f 80, f 81, f 82, f 83, f 84, f 85, f 86, f 87, f 88, f 89, f 90, f 91, f 92, f 93, f 94, f 95, f 96, f 97, f 98, f 99, f 100, f 101, f 102, f 103, f 104, f 105, f 106, f 107, f 108, f 109, f 110] from rfl] at e
  refine ⟨f, ?_⟩
  have hi : ∀ i, f i = a.tmps.getD i undef := fun i => by rw [← hf]
  rw [e]
  simp only [show f 6 = x6 from (hi 6).trans h6, show f 7 = x7 from (hi 7).trans h7, show f 12 = x12 from (hi 12).trans h12]
set_option maxRecDepth 100000 in
set_option maxHeartbeats 8000000 in
theorem build_is (w : World) (g room : Nat) (rm : Int) (T : List Tx) (tk : Nat) (ls byt : Int) (H : IsQ w g rm T tk ls byt) (hrm : 0 < rm) (hW : Waits T tk) (hT : 1 ≤ T.length) (hr1 : 1 ≤ room) (hr2 : room ≤ 4000) (b0 : -900000 ≤ byt) (b1 : byt ≤ 900000) :
    Calls Try.prog 11 #[.pointer (some ⟨g, 0, none⟩), .int .i64 room, .int .i64 11] w fun e w' => ∃ (fi n : Nat) (O : List (List Nat)) (T' : List Tx) (tk' : Nat) (AF : Option Addr) (cF : Nat) (AD : Option Addr) (nD cD : Nat), e = .returned (.tuple #[.agg #[.int .i64 (fi : Int), .slice AF n cF, .slice AD nD cD], .int .i64 0]) ∧ O.length = n ∧
      RowF w' w.heap.size (.slice AF n cF) O ∧ Cut T tk room O fi T' tk' ∧ IsQ w' g rm T' tk' ls (byt - tot O) ∧ Frm (fun x => x = g) w w' := by
  obtain ⟨gr, hgr⟩ : ∃ gr, w.heap.size = gr := ⟨_, rfl⟩
  have B1 := Blk.new w #[.int .i64 0, .slice none 0 0, .slice none 0 0] 42
  have F1 := (Frm.refl No w).alloc (.cells #[.int .i64 0, .slice none 0 0, .slice none 0 0] 42)
  obtain ⟨w1, hw1⟩ : ∃ w1, w.alloc (.cells #[.int .i64 0, .slice none 0 0, .slice none 0 0] 42) = w1 := ⟨_, rfl⟩
  rw [hw1, hgr] at B1
  rw [hw1] at F1
  have hs1 : w.heap.size < w1.heap.size := by rw [← hw1]; show _ < (w.heap.push _).size; rw [Array.size_push]; omega
  have hask := cutask w1 g room hr2
  have htz := take_zero w1 g rm T tk ls byt (H.frmN F1) hrm (fun t R e => by have := hW.2.2 t R e; omega) (by have := hW.1; omega)
  rw [if_neg (by omega)] at htz
  have r1 : (1 : Int) ≤ (room : Int) := by omega
  have r2 : (room : Int) ≤ 4000 := by omega
  have HA := Lib.hid (And.intro H (And.intro hW (And.intro hT (And.intro B1 (And.intro F1 (And.intro hs1 hgr))))))
  clear H hW hT B1 F1 hs1
  go_enter Try.func11, Try.ntmps11
  go_wp2_with fail
  refine wp_scope_two 0 1 (fun a' wr => ∃ (gp j used : Nat) (vF vD : Value), a'.tmps.size = 111 ∧ a'.defers = [] ∧ a'.tmps.getD 0 undef = .pointer (some ⟨g, 0, none⟩) ∧ a'.tmps.getD 1 undef = .int .i64 (room : Int) ∧ a'.tmps.getD 2 undef = .int .i64 11 ∧ a'.tmps.getD 6 undef = .pointer (some ⟨gr, 0, none⟩) ∧ a'.tmps.getD 7 undef = .int .i64 0 ∧ a'.tmps.getD 12 undef = (.pointer (some ⟨gp, 0, none⟩)) ∧ a'.tmps.getD 13 undef = .int .i64 (used : Int) ∧ PB w wr g gr gp rm T tk ls byt room j used vF vD) (fun a' wr => ∃ (gp fi : Nat) (vF vD : Value) (O : List (List Nat)) (T' : List Tx) (tk' : Nat), a'.tmps.size = 111 ∧ a'.defers = [] ∧ a'.tmps.getD 6 undef = .pointer (some ⟨gr, 0, none⟩) ∧ a'.tmps.getD 7 undef = .int .i64 0 ∧ a'.tmps.getD 12 undef = .pointer (some ⟨gp, 0, none⟩) ∧ PZ w wr g gr gp rm T tk ls byt room fi vF vD O T' tk') (fun a' _ => room - (intOf (a'.tmps.getD 13 undef)).toNat) f11_l0 f11_l1 ?_ ?_ ?_
  · rintro a' wr ⟨gp, fi, vF, vD, O, T', tk', hs', hd', e6', e7', e12', HZ⟩
    obtain ⟨U, rfl⟩ := fr11b hs' hd' e6' e7' e12'
    clear hs' hd' e6' e7' e12'
    unfold Try.f11
    dsimp only [cL, cR, cS, Option.getD_some]
    obtain ⟨n, hn⟩ : ∃ n, O.length = n := ⟨_, rfl⟩
    obtain ⟨AF, cF, rfl, -⟩ := HZ.f.out hn
    obtain ⟨nD, xD, hD⟩ := HZ.d
    obtain ⟨AD, cD, rfl, -, -⟩ := own_is hD
    have hp := HZ.c.pos
    rw [hn] at hp
    have n1 : ((n : Int) == 0) = false := by rw [beq_eq_false_iff_ne]; omega
    have y0 : wr.cell? ⟨gp, 0, none⟩ = some (.int .i64 (fi : Int)) := HZ.p.cell 0
    have y1 : wr.cell? ⟨gp, 1, none⟩ = some (.slice AF n cF) := HZ.p.cell 1
    have y2 : wr.cell? ⟨gp, 2, none⟩ = some (.slice AD nD cD) := HZ.p.cell 2
    have x0 : wr.cell? ⟨gr, 0, none⟩ = some (.int .i64 0) := HZ.r.cell 0
    have x1 : wr.cell? ⟨gr, 1, none⟩ = some (.slice none 0 0) := HZ.r.cell 1
    have x2 : wr.cell? ⟨gr, 2, none⟩ = some (.slice none 0 0) := HZ.r.cell 2
    have z0 : wr.frozen? ⟨gr, 0, none⟩ = false := HZ.r.free 0
    have z1 : wr.frozen? ⟨gr, 1, none⟩ = false := HZ.r.free 1
    have z2 : wr.frozen? ⟨gr, 2, none⟩ = false := HZ.r.free 2
    have hgl := HZ.r.lt
    have HZ' := Lib.hid (And.intro HZ hn)
    clear HZ hn hp hD
    go_wp2_with fail
    simp only [Exit.two]
    have F5 : Frm (fun x => x = gr) wr (((wr.setCell ⟨gr, 0, none⟩ (.int .i64 (fi : Int))).setCell ⟨gr, 1, none⟩ (.slice AF n cF)).setCell ⟨gr, 2, none⟩ (.slice AD nD cD)) := (((Frm.refl (fun x => x = gr) wr).self 0 _).self 1 _).self 2 _
    have B5 : Blk (((wr.setCell ⟨gr, 0, none⟩ (.int .i64 (fi : Int))).setCell ⟨gr, 1, none⟩ (.slice AF n cF)).setCell ⟨gr, 2, none⟩ (.slice AD nD cD)) gr #[.int .i64 (fi : Int), .slice AF n cF, .slice AD nD cD] 42 := ((HZ'.out.1.r.set 0 _).set 1 _).set 2 _
    refine bodyPost_ret (ret_cell_tmp (by rfl) _ _ gr 42 _ _ rfl B5 Try.underlying42 rfl size42) rfl ?_
    have nt : ∀ t, t ≠ 42 → ∀ x cs, Blk wr x cs t → ¬ (x = gr) := fun t ht x cs hx e => by subst e; exact Blk.ne hx HZ'.out.1.r ht rfl
    refine ⟨fi, n, O, T', tk', AF, cF, AD, nD, cD, rfl, HZ'.out.2, HZ'.out.1.f.frm F5 (nt 24 (by decide)) (nt 5 (by decide)), HZ'.out.1.c, HZ'.out.1.q.frm F5 ?_ (nt 70 (by decide)) (nt 5 (by decide)), HZ'.out.1.frm.then F5 (fun x hx => .inr (by subst hx; exact HZ'.out.1.lr))⟩
    obtain ⟨cs, hq⟩ := HZ'.out.1.q.blk
    exact nt 64 (by decide) _ _ hq
  · intro hdone
    rintro a' wr ⟨gp, j, used, vF, vD, hs', hd', e0', e1', e2', e6', e7', e12', e13', HB⟩
    obtain ⟨U, rfl⟩ := fr11a hs' hd' e0' e1' e2' e6' e7' e12' e13'
    clear hs' hd' e0' e1' e2' e6' e7' e12' e13'
    unfold Try.f11
    dsimp only [cL, cR, cS, Option.getD_some]
    obtain ⟨AF, cF, rfl, hcF⟩ := HB.f.out (pre_len T tk j)
    obtain ⟨xD, hD⟩ := HB.d
    obtain ⟨AD, cD, rfl, -, -⟩ := own_is hD
    clear hD
    have HB' := Lib.hid HB
    have hlsz := fun W => lensize W j (by have := HB.j2; omega)
    have y0 : wr.cell? ⟨gp, 0, none⟩ = some (.int .i64 (fiOf tk j : Nat)) := HB.p.cell 0
    have y1 : wr.cell? ⟨gp, 1, none⟩ = some (.slice AF j cF) := HB.p.cell 1
    obtain ⟨s9, hs9⟩ : ∃ s9, sizeL j = s9 := ⟨_, rfl⟩
    have hs35 := sizeL_le j
    rw [hs9] at hs35
    have hus := HB.us
    have hj24 := HB.j2
    obtain ⟨L, hL⟩ : ∃ L : Int, (room : Int) - (used : Int) - (s9 : Int) = L := ⟨_, rfl⟩
    have pw1 : IntKind.i64.wrap ((room : Int) - (used : Int)) = (room : Int) - (used : Int) := IntWalk.i64_in _ ⟨by omega, by omega⟩
    have pw2 : IntKind.i64.wrap L = L := IntWalk.i64_in _ ⟨by omega, by omega⟩
    have jn : (j : Int) ≤ 24 := by omega
    have HSZ := Lib.hid hs9
    have HBl := Lib.hid (And.intro hL (And.intro hus hs35))
    by_cases hj : j < T.length
    · obtain ⟨t, R, hd, hR, htg, hk, h1000, hn1, hln⟩ := HA.out.2.1.at_ hj
      have hq := HB.q
      rw [hd] at hq
      have hRl : R.length ≤ 900 := by rw [hR, List.length_drop]; have := HA.out.2.1.1; omega
      have hf := front_some wr g rm t R (tkj tk j) ls (byt - used) hq hrm (by omega) (by omega) (by omega)
      have hce : t.bs.drop (tkj tk j) = chk T tk j := by unfold chk; rw [htg]
      rw [hce] at hf
      obtain ⟨n, hn⟩ : ∃ n, (chk T tk j).length = n := ⟨_, rfl⟩
      obtain ⟨kt, hkt⟩ : ∃ kt, tkj tk j = kt := ⟨_, rfl⟩
      rw [hkt] at hf
      rw [hn] at hn1 hln
      have nz : ((n : Int) == 0) = false := by rw [beq_eq_false_iff_ne]; omega
      have n1 : (1 : Int) ≤ (n : Int) := by omega
      have n9 : (n : Int) ≤ 1000 := by omega
      have HT := Lib.hid (And.intro hd (And.intro hR (And.intro hk (And.intro h1000 (And.intro hn (And.intro hkt (And.intro hln (And.intro hce (And.intro hq (And.intro hRl (And.intro hj htg)))))))))))
      clear HB hd hR hk h1000 hn hkt hln hce hq hRl htg hs9 hs35 hL hus hj
      go_wp2_with fail
      refine hf.mono ?_
      rintro e w2 ⟨v2, rfl, R2, F2⟩
      obtain ⟨A2, c2, rfl, -, -⟩ := R2.outn HT.out.2.2.2.2.1
      have y0' : w2.cell? ⟨gp, 0, none⟩ = some (.int .i64 (fiOf tk j : Nat)) := (F2.blk HB'.out.p (fun h => h)).cell 0
      have y1' : w2.cell? ⟨gp, 1, none⟩ = some (.slice AF j cF) := (F2.blk HB'.out.p (fun h => h)).cell 1
      have z0' : w2.frozen? ⟨gp, 0, none⟩ = false := (F2.blk HB'.out.p (fun h => h)).free 0
      have hgp2 := (F2.blk HB'.out.p (fun h => h)).lt
      have H2 := Lib.hid F2
      clear R2 F2 y0 y1 hf
      go_wp2_with fail
      refine (hlsz _).mono ?_
      rintro e wq ⟨rfl, hwx⟩
      have hwx2 := hwx.symm
      clear hwx
      subst hwx2
      rw [HSZ.out]
      have hL := HBl.out.1
      clear hlsz
      by_cases hL1 : L < 1
      · have hj1 : 1 ≤ j := by
          rcases Nat.eq_zero_or_pos j with h0 | h0
          · have h1 := HSZ.out
            have h2 := HB'.out.u
            rw [h0] at h1 h2
            have h3 : sizeL 0 = 0 := rfl
            have h4 : tot (pre T tk 0) = 0 := rfl
            omega
          · exact h0
        have HZ := Lib.hid (HB'.out.done HA.out.2.1 hj1 H2.out)
        go_wp2_with fail
        go_step3
        exact .inr ⟨rfl, gp, fiOf tk j, _, _, _, _, _, rfl, rfl, rfl, rfl, rfl, HZ.out⟩
      by_cases hj24' : j = 24
      · have e24 : ((j : Int) == 24) = true := by rw [beq_iff_eq]; omega
        have HZ := Lib.hid (HB'.out.done HA.out.2.1 (by omega) H2.out)
        clear hj24' hj24 jn
        go_wp2_with fail
        go_step3
        exact .inr ⟨rfl, gp, fiOf tk j, _, _, _, _, _, rfl, rfl, rfl, rfl, rfl, HZ.out⟩
      have e24 : ((j : Int) == 24) = false := by rw [beq_eq_false_iff_ne]; omega
      have L1 : 1 ≤ L := by omega
      have L9 : L ≤ 4000 := by have := HBl.out; omega
      have J23 := Lib.hid (show j ≤ 23 by omega)
      clear hj24' hL1 hj24
      have hQ2 := HT.out.2.2.2.2.2.2.2.2.1.frmN H2.out
      rw [HT.out.2.2.2.2.2.1] at hQ2
      have hce' : t.bs.drop kt = chk T tk j := by rw [← HT.out.2.2.2.2.2.1]; exact HT.out.2.2.2.2.2.2.2.1
      have hkt' : kt + n = t.bs.length := by have h1 := HT.out.2.2.1; have h2 := HT.out.2.2.2.2.2.2.1; rw [HT.out.2.2.2.2.2.1] at h1 h2; omega
      have HK := Lib.hid (And.intro hce' hkt')
      clear hce' hkt' z0'
      by_cases hb : 0 < kt
      · obtain ⟨f1, f2, f3⟩ := fi_turns (tk := tk) (j := j) (by rw [HT.out.2.2.2.2.2.1]; exact hb)
        have M2 := HB'.out.pm.keepN H2.out
        have z0' : w2.frozen? ⟨gp, 0, none⟩ = false := M2.p.free 0
        rw [f1] at y0'
        obtain ⟨M3, FM⟩ := M2.setfi 2
        have hor2 : bits .or .i64 0 2 = 2 := by decide
        obtain ⟨wb, hwb⟩ : ∃ wb, w2.setCell ⟨gp, 0, none⟩ (.int .i64 2) = wb := ⟨_, rfl⟩
        rw [hwb] at M3 FM
        have nq : ∀ t, t ≠ 42 → ∀ x cs, Blk w2 x cs t → ¬ (x = gp) := fun t ht x cs hx e => by subst e; exact Blk.ne hx M2.p ht rfl
        have hQ3 := hQ2.frm FM (by obtain ⟨cs, hq⟩ := hQ2.blk; exact nq 64 (by decide) _ _ hq) (nq 70 (by decide)) (nq 5 (by decide))
        rw [show (2 : Int) = ((fiOf tk (j + 1) : Nat) : Int) by rw [f2]; rfl] at M3
        have HM := Lib.hid M3
        have HQ := Lib.hid hQ3
        clear M2 M3 FM nq hQ2 hQ3 f1 f2 f3
        by_cases hcut : L < (n : Int)
        · obtain ⟨k, rfl⟩ := Int.eq_ofNat_of_zero_le (show 0 ≤ L by omega)
          have hmin : (k : Int) ≤ (n : Int) := by omega
          have hkn : k < n := by omega
          have htk := take_some wb g rm t R kt k ls (byt - used) HQ.out hrm (by omega) (by have := HK.out.2; omega) HT.out.2.2.2.2.2.2.2.2.2.1 (by have := HT.out.2.2.2.1; omega) (by have := HBl.out; omega) (by have := HBl.out; omega)
          rw [HK.out.1] at htk
          have hln : ((chk T tk j).take k).length = k := by rw [List.length_take]; have := HT.out.2.2.2.2.1; omega
          have hall : ¬ kt + k = t.bs.length := by have := HK.out.2; omega
          rw [if_neg hall, if_neg hall, decide_eq_false hall] at htk
          have HLN := Lib.hid hln
          clear hln hall
          go_wp2_with fail
          refine htk.mono ?_
          rintro e w3 ⟨v3, rfl, R3, Q3, F3⟩
          clear htk
          obtain ⟨A3, c3, rfl, -, -⟩ := R3.outn HLN.out
          have M3 := HM.out.keepQ HQ.out.blk F3
          obtain ⟨F0, hF0, own0, rr0⟩ := M3.f
          have hF0l : F0.length = j := by rw [← List.length_map (f := Fl.bs), hF0, pre_len]
          rw [hF0l] at own0
          have own1 := World.ownsRow.alloc own0 (.cells #[.slice A3 k c3] 24)
          have hrd := one_rds w3 (.slice A3 k c3) 24
          obtain ⟨j0, hi0, hz0, hz1, hz2⟩ := info_parts info24
          have hsz : w.heap.size ≤ (w3.alloc (.cells #[.slice A3 k c3] 24)).heap.size := (M3.frm.alloc _).size
          have y13 : w3.cell? ⟨gp, 1, none⟩ = some (.slice AF j cF) := M3.p.cell 1
          have jl := J23.out
          have H3 := Lib.hid (And.intro M3 (And.intro R3 (And.intro Q3 (And.intro rr0 (And.intro hF0 hF0l)))))
          clear M3 R3 Q3 F3 rr0 hF0 hF0l own0 y1' hgp2
          go_upto_region 17 with (at_builtin; go_must (refine wpList_append_rds _ rfl _ _ 22 rfl w.heap.size 24 j0 _ 1 24 Try.underlying22 hi0 hz0 hz1 hz2 rfl (by omega) (.slice AF j cF) j (F0.map Fl.val) rfl own1 (some ⟨w3.heap.size, 0, none⟩) 1 1 [.slice A3 k c3] rfl hrd (by simp [Value.oneCell']) (by unfold maxLen; omega) (by omega) hsz ?_; intro v4 w4 own4 hg4; have hpf := PM.field H3.out.1 H3.out.2.2.2.2.2 own1 own4 hg4 (RowB.lower H3.out.2.1 (Nat.zero_le _)) HLN.out H3.out.2.2.2.1 H3.out.2.2.2.2.1; obtain ⟨A4, c4, rfl, -, -⟩ := own_is own4; have z14 : w4.frozen? ⟨gp, 1, none⟩ = false := hpf.2.2.2.free 1; have y14 : w4.cell? ⟨gp, 1, none⟩ = some (.slice AF j cF) := hpf.2.2.2.cell 1; have hgl4 := hpf.2.2.2.lt))
          obtain ⟨M5, F5, nb5, p4⟩ := hpf
          have Q5 := H3.out.2.2.1.frm F5 (by obtain ⟨cs, hq⟩ := H3.out.2.2.1.blk; exact nb5 64 (by decide) (by decide) _ _ hq) (nb5 70 (by decide) (by decide)) (nb5 5 (by decide) (by decide))
          obtain ⟨w5, hw5⟩ : ∃ w5, w4.setCell ⟨gp, 1, none⟩ (.slice A4 (j + 1) c4) = w5 := ⟨_, rfl⟩
          rw [hw5] at M5 Q5
          try rw [hw5]
          have H5 := Lib.hid (And.intro M5 Q5)
          have pwu : IntKind.i64.wrap ((used : Int) + (k : Int)) = (used : Int) + (k : Int) := IntWalk.i64_in _ ⟨by omega, by have := HBl.out; omega⟩
          clear M5 Q5 F5 nb5 p4 hw5 z14 y14 y13 hgl4 own4 hg4 own1 hrd hsz hi0 hz0 hz1 hz2
          have y05 : w5.cell? ⟨gp, 0, none⟩ = some (.int .i64 (fiOf tk (j + 1) : Nat)) := H5.out.1.p.cell 0
          have z05 : w5.frozen? ⟨gp, 0, none⟩ = false := H5.out.1.p.free 0
          have hgl5 := H5.out.1.p.lt
          have hor : bits .or .i64 (fiOf tk (j + 1) : Nat) 1 = ((fiOf tk (j + 1) + 1 : Nat) : Int) := by unfold fiOf; rw [if_neg (by omega)]; split <;> rfl
          have M6 := H5.out.1.setfi ((fiOf tk (j + 1) + 1 : Nat) : Int)
          have Q6 := H5.out.2.frm M6.2 (by obtain ⟨cs, hq⟩ := H5.out.2.blk; intro e; subst e; exact Blk.ne hq H5.out.1.p (by decide) rfl) (fun x cs hx e => by subst e; exact Blk.ne hx H5.out.1.p (by decide) rfl) (fun x cs hx e => by subst e; exact Blk.ne hx H5.out.1.p (by decide) rfl)
          rw [← HT.out.1, ← HT.out.2.2.2.2.2.1] at Q6
          have HZ := Lib.hid (HB'.out.last j M6.1 Q6 (by omega) (by have := HT.out.2.2.2.2.1; omega) HT.out.2.2.2.2.2.2.2.2.2.2.1 J23.out (by have := HBl.out; have := HSZ.out; omega))
          clear M6 Q6
          go_wp2_with fail
          go_step3
          refine (by assumption : ∀ (a : Act) (w : World), Code.wp Try.prog _ _ a w → _) _ _ (hdone _ _ _ ?_)
          exact ⟨gp, fiOf tk (j + 1) + 1, _, _, _, _, _, rfl, rfl, rfl, rfl, rfl, HZ.out⟩
        · by_cases hln0 : L = (n : Int)
          · subst hln0
            have htk := take_some wb g rm t R kt n ls (byt - used) HQ.out hrm (by omega) (by have := HK.out.2; omega) HT.out.2.2.2.2.2.2.2.2.2.1 (by have := HT.out.2.2.2.1; omega) (by have := HBl.out; omega) (by have := HBl.out; omega)
            rw [HK.out.1] at htk
            have hln : ((chk T tk j).take n).length = n := by rw [List.length_take]; have := HT.out.2.2.2.2.1; omega
            have hall : kt + n = t.bs.length := HK.out.2
            rw [if_pos hall, if_pos hall, decide_eq_true hall] at htk
            have HLN := Lib.hid hln
            clear hln hall
            go_wp2_with fail
            refine htk.mono ?_
            rintro e w3 ⟨v3, rfl, R3, Q3, F3⟩
            clear htk
            obtain ⟨A3, c3, rfl, -, -⟩ := R3.outn HLN.out
            have M3 := HM.out.keepQ HQ.out.blk F3
            obtain ⟨F0, hF0, own0, rr0⟩ := M3.f
            have hF0l : F0.length = j := by rw [← List.length_map (f := Fl.bs), hF0, pre_len]
            rw [hF0l] at own0
            have own1 := World.ownsRow.alloc own0 (.cells #[.slice A3 n c3] 24)
            have hrd := one_rds w3 (.slice A3 n c3) 24
            obtain ⟨j0, hi0, hz0, hz1, hz2⟩ := info_parts info24
            have hsz : w.heap.size ≤ (w3.alloc (.cells #[.slice A3 n c3] 24)).heap.size := (M3.frm.alloc _).size
            have y13 : w3.cell? ⟨gp, 1, none⟩ = some (.slice AF j cF) := M3.p.cell 1
            have jl := J23.out
            have H3 := Lib.hid (And.intro M3 (And.intro R3 (And.intro Q3 (And.intro rr0 (And.intro hF0 hF0l)))))
            clear M3 R3 Q3 F3 rr0 hF0 hF0l own0 y1' hgp2
            go_upto_region 17 with (at_builtin; go_must (refine wpList_append_rds _ rfl _ _ 22 rfl w.heap.size 24 j0 _ 1 24 Try.underlying22 hi0 hz0 hz1 hz2 rfl (by omega) (.slice AF j cF) j (F0.map Fl.val) rfl own1 (some ⟨w3.heap.size, 0, none⟩) 1 1 [.slice A3 n c3] rfl hrd (by simp [Value.oneCell']) (by unfold maxLen; omega) (by omega) hsz ?_; intro v4 w4 own4 hg4; have hpf := PM.field H3.out.1 H3.out.2.2.2.2.2 own1 own4 hg4 (RowB.lower H3.out.2.1 (Nat.zero_le _)) HLN.out H3.out.2.2.2.1 H3.out.2.2.2.2.1; obtain ⟨A4, c4, rfl, -, -⟩ := own_is own4; have z14 : w4.frozen? ⟨gp, 1, none⟩ = false := hpf.2.2.2.free 1; have y14 : w4.cell? ⟨gp, 1, none⟩ = some (.slice AF j cF) := hpf.2.2.2.cell 1; have hgl4 := hpf.2.2.2.lt))
            obtain ⟨M5, F5, nb5, p4⟩ := hpf
            have Q5 := H3.out.2.2.1.frm F5 (by obtain ⟨cs, hq⟩ := H3.out.2.2.1.blk; exact nb5 64 (by decide) (by decide) _ _ hq) (nb5 70 (by decide) (by decide)) (nb5 5 (by decide) (by decide))
            obtain ⟨w5, hw5⟩ : ∃ w5, w4.setCell ⟨gp, 1, none⟩ (.slice A4 (j + 1) c4) = w5 := ⟨_, rfl⟩
            rw [hw5] at M5 Q5
            try rw [hw5]
            have H5 := Lib.hid (And.intro M5 Q5)
            have pwu : IntKind.i64.wrap ((used : Int) + (n : Int)) = (used : Int) + (n : Int) := IntWalk.i64_in _ ⟨by omega, by have := HBl.out; omega⟩
            clear M5 Q5 F5 nb5 p4 hw5 z14 y14 y13 hgl4 own4 hg4 own1 hrd hsz hi0 hz0 hz1 hz2
            have y25 : w5.cell? ⟨gp, 2, none⟩ = some (.slice AD j cD) := H5.out.1.p.cell 2
            obtain ⟨xs, hxs⟩ := H5.out.1.d
            have own1 := World.ownsRow.alloc hxs (.cells #[.int .u64 t.id] 34)
            have hrd := one_rds w5 (.int .u64 t.id) 34
            obtain ⟨j1, hi0, hz0, hz1, hz2⟩ := info_parts info34
            have hsz : w.heap.size ≤ (w5.alloc (.cells #[.int .u64 t.id] 34)).heap.size := (H5.out.1.frm.alloc _).size
            clear hxs
            go_wp2_with (at_builtin; go_must (refine wpList_append_rds _ rfl _ _ 40 rfl w.heap.size 34 j1 _ 1 8 Try.underlying40 hi0 hz0 hz1 hz2 rfl (by omega) (.slice AD j cD) j xs rfl own1 (some ⟨w5.heap.size, 0, none⟩) 1 1 [.int .u64 t.id] rfl hrd (by simp [Value.oneCell']) (by unfold maxLen; omega) (by omega) hsz ?_; intro v6 w6 own6 hg6; have hpn := PM.num H5.out.1 own1 own6 hg6; obtain ⟨A6, c6, rfl, -, -⟩ := own_is own6; have z26 : w6.frozen? ⟨gp, 2, none⟩ = false := hpn.2.2.2.free 2; have y26 : w6.cell? ⟨gp, 2, none⟩ = some (.slice AD j cD) := hpn.2.2.2.cell 2; have hgl6 := hpn.2.2.2.lt))
            obtain ⟨M7, F7, nb7, p6⟩ := hpn
            have Q7 := H5.out.2.frm F7 (by obtain ⟨cs, hq⟩ := H5.out.2.blk; exact nb7 64 (by decide) (by decide) _ _ hq) (nb7 70 (by decide) (by decide)) (nb7 5 (by decide) (by decide))
            rw [List.take_of_length_le (by rw [HT.out.2.2.2.2.1]; exact Nat.le_refl _)] at M7
            rw [HT.out.2.1] at Q7
            have HN := Lib.hid (HB'.out.next M7 Q7 HT.out.2.2.2.2.1 HT.out.2.2.2.2.2.2.2.2.2.2.1 J23.out (by have := HBl.out; have := HSZ.out; omega))
            clear M7 Q7 F7 nb7 p6
            try go_step3
            have hm9 := HBl.out
            refine .inl ⟨rfl, ⟨gp, j + 1, used + n, _, _, rfl, rfl, rfl, rfl, rfl, rfl, rfl, rfl, rfl, HN.out⟩, ?_⟩
            simp [intOf, Array.getD]
            omega
          · have hmin : ¬ L ≤ (n : Int) := by omega
            have htk := take_some wb g rm t R kt n ls (byt - used) HQ.out hrm (by omega) (by have := HK.out.2; omega) HT.out.2.2.2.2.2.2.2.2.2.1 (by have := HT.out.2.2.2.1; omega) (by have := HBl.out; omega) (by have := HBl.out; omega)
            rw [HK.out.1] at htk
            have hln : ((chk T tk j).take n).length = n := by rw [List.length_take]; have := HT.out.2.2.2.2.1; omega
            have hall : kt + n = t.bs.length := HK.out.2
            rw [if_pos hall, if_pos hall, decide_eq_true hall] at htk
            have HLN := Lib.hid hln
            clear hln hall
            go_wp2_with fail
            refine htk.mono ?_
            rintro e w3 ⟨v3, rfl, R3, Q3, F3⟩
            clear htk
            obtain ⟨A3, c3, rfl, -, -⟩ := R3.outn HLN.out
            have M3 := HM.out.keepQ HQ.out.blk F3
            obtain ⟨F0, hF0, own0, rr0⟩ := M3.f
            have hF0l : F0.length = j := by rw [← List.length_map (f := Fl.bs), hF0, pre_len]
            rw [hF0l] at own0
            have own1 := World.ownsRow.alloc own0 (.cells #[.slice A3 n c3] 24)
            have hrd := one_rds w3 (.slice A3 n c3) 24
            obtain ⟨j0, hi0, hz0, hz1, hz2⟩ := info_parts info24
            have hsz : w.heap.size ≤ (w3.alloc (.cells #[.slice A3 n c3] 24)).heap.size := (M3.frm.alloc _).size
            have y13 : w3.cell? ⟨gp, 1, none⟩ = some (.slice AF j cF) := M3.p.cell 1
            have jl := J23.out
            have H3 := Lib.hid (And.intro M3 (And.intro R3 (And.intro Q3 (And.intro rr0 (And.intro hF0 hF0l)))))
            clear M3 R3 Q3 F3 rr0 hF0 hF0l own0 y1' hgp2
            go_upto_region 17 with (at_builtin; go_must (refine wpList_append_rds _ rfl _ _ 22 rfl w.heap.size 24 j0 _ 1 24 Try.underlying22 hi0 hz0 hz1 hz2 rfl (by omega) (.slice AF j cF) j (F0.map Fl.val) rfl own1 (some ⟨w3.heap.size, 0, none⟩) 1 1 [.slice A3 n c3] rfl hrd (by simp [Value.oneCell']) (by unfold maxLen; omega) (by omega) hsz ?_; intro v4 w4 own4 hg4; have hpf := PM.field H3.out.1 H3.out.2.2.2.2.2 own1 own4 hg4 (RowB.lower H3.out.2.1 (Nat.zero_le _)) HLN.out H3.out.2.2.2.1 H3.out.2.2.2.2.1; obtain ⟨A4, c4, rfl, -, -⟩ := own_is own4; have z14 : w4.frozen? ⟨gp, 1, none⟩ = false := hpf.2.2.2.free 1; have y14 : w4.cell? ⟨gp, 1, none⟩ = some (.slice AF j cF) := hpf.2.2.2.cell 1; have hgl4 := hpf.2.2.2.lt))
            obtain ⟨M5, F5, nb5, p4⟩ := hpf
            have Q5 := H3.out.2.2.1.frm F5 (by obtain ⟨cs, hq⟩ := H3.out.2.2.1.blk; exact nb5 64 (by decide) (by decide) _ _ hq) (nb5 70 (by decide) (by decide)) (nb5 5 (by decide) (by decide))
            obtain ⟨w5, hw5⟩ : ∃ w5, w4.setCell ⟨gp, 1, none⟩ (.slice A4 (j + 1) c4) = w5 := ⟨_, rfl⟩
            rw [hw5] at M5 Q5
            try rw [hw5]
            have H5 := Lib.hid (And.intro M5 Q5)
            have pwu : IntKind.i64.wrap ((used : Int) + (n : Int)) = (used : Int) + (n : Int) := IntWalk.i64_in _ ⟨by omega, by have := HBl.out; omega⟩
            clear M5 Q5 F5 nb5 p4 hw5 z14 y14 y13 hgl4 own4 hg4 own1 hrd hsz hi0 hz0 hz1 hz2
            have y25 : w5.cell? ⟨gp, 2, none⟩ = some (.slice AD j cD) := H5.out.1.p.cell 2
            obtain ⟨xs, hxs⟩ := H5.out.1.d
            have own1 := World.ownsRow.alloc hxs (.cells #[.int .u64 t.id] 34)
            have hrd := one_rds w5 (.int .u64 t.id) 34
            obtain ⟨j1, hi0, hz0, hz1, hz2⟩ := info_parts info34
            have hsz : w.heap.size ≤ (w5.alloc (.cells #[.int .u64 t.id] 34)).heap.size := (H5.out.1.frm.alloc _).size
            clear hxs
            go_wp2_with (at_builtin; go_must (refine wpList_append_rds _ rfl _ _ 40 rfl w.heap.size 34 j1 _ 1 8 Try.underlying40 hi0 hz0 hz1 hz2 rfl (by omega) (.slice AD j cD) j xs rfl own1 (some ⟨w5.heap.size, 0, none⟩) 1 1 [.int .u64 t.id] rfl hrd (by simp [Value.oneCell']) (by unfold maxLen; omega) (by omega) hsz ?_; intro v6 w6 own6 hg6; have hpn := PM.num H5.out.1 own1 own6 hg6; obtain ⟨A6, c6, rfl, -, -⟩ := own_is own6; have z26 : w6.frozen? ⟨gp, 2, none⟩ = false := hpn.2.2.2.free 2; have y26 : w6.cell? ⟨gp, 2, none⟩ = some (.slice AD j cD) := hpn.2.2.2.cell 2; have hgl6 := hpn.2.2.2.lt))
            obtain ⟨M7, F7, nb7, p6⟩ := hpn
            have Q7 := H5.out.2.frm F7 (by obtain ⟨cs, hq⟩ := H5.out.2.blk; exact nb7 64 (by decide) (by decide) _ _ hq) (nb7 70 (by decide) (by decide)) (nb7 5 (by decide) (by decide))
            rw [List.take_of_length_le (by rw [HT.out.2.2.2.2.1]; exact Nat.le_refl _)] at M7
            rw [HT.out.2.1] at Q7
            have HN := Lib.hid (HB'.out.next M7 Q7 HT.out.2.2.2.2.1 HT.out.2.2.2.2.2.2.2.2.2.2.1 J23.out (by have := HBl.out; have := HSZ.out; omega))
            clear M7 Q7 F7 nb7 p6
            try go_step3
            have hm9 := HBl.out
            refine .inl ⟨rfl, ⟨gp, j + 1, used + n, _, _, rfl, rfl, rfl, rfl, rfl, rfl, rfl, rfl, rfl, HN.out⟩, ?_⟩
            simp [intOf, Array.getD]
            omega
      · have f1 := fi_stays (tk := tk) (j := j) (by rw [HT.out.2.2.2.2.2.1]; exact hb)
        have M2 := HB'.out.pm.keepN H2.out
        rw [f1] at M2
        obtain ⟨wb, hwb⟩ : ∃ wb, w2 = wb := ⟨_, rfl⟩
        subst hwb
        have HM := Lib.hid M2
        have HQ := Lib.hid hQ2
        clear M2 hQ2 f1 y0'
        by_cases hcut : L < (n : Int)
        · obtain ⟨k, rfl⟩ := Int.eq_ofNat_of_zero_le (show 0 ≤ L by omega)
          have hmin : (k : Int) ≤ (n : Int) := by omega
          have hkn : k < n := by omega
          have htk := take_some w2 g rm t R kt k ls (byt - used) HQ.out hrm (by omega) (by have := HK.out.2; omega) HT.out.2.2.2.2.2.2.2.2.2.1 (by have := HT.out.2.2.2.1; omega) (by have := HBl.out; omega) (by have := HBl.out; omega)
          rw [HK.out.1] at htk
          have hln : ((chk T tk j).take k).length = k := by rw [List.length_take]; have := HT.out.2.2.2.2.1; omega
          have hall : ¬ kt + k = t.bs.length := by have := HK.out.2; omega
          rw [if_neg hall, if_neg hall, decide_eq_false hall] at htk
          have HLN := Lib.hid hln
          clear hln hall
          go_wp2_with fail
          refine htk.mono ?_
          rintro e w3 ⟨v3, rfl, R3, Q3, F3⟩
          clear htk
          obtain ⟨A3, c3, rfl, -, -⟩ := R3.outn HLN.out
          have M3 := HM.out.keepQ HQ.out.blk F3
          obtain ⟨F0, hF0, own0, rr0⟩ := M3.f
          have hF0l : F0.length = j := by rw [← List.length_map (f := Fl.bs), hF0, pre_len]
          rw [hF0l] at own0
          have own1 := World.ownsRow.alloc own0 (.cells #[.slice A3 k c3] 24)
          have hrd := one_rds w3 (.slice A3 k c3) 24
          obtain ⟨j0, hi0, hz0, hz1, hz2⟩ := info_parts info24
          have hsz : w.heap.size ≤ (w3.alloc (.cells #[.slice A3 k c3] 24)).heap.size := (M3.frm.alloc _).size
          have y13 : w3.cell? ⟨gp, 1, none⟩ = some (.slice AF j cF) := M3.p.cell 1
          have jl := J23.out
          have H3 := Lib.hid (And.intro M3 (And.intro R3 (And.intro Q3 (And.intro rr0 (And.intro hF0 hF0l)))))
          clear M3 R3 Q3 F3 rr0 hF0 hF0l own0 y1' hgp2
          go_upto_region 17 with (at_builtin; go_must (refine wpList_append_rds _ rfl _ _ 22 rfl w.heap.size 24 j0 _ 1 24 Try.underlying22 hi0 hz0 hz1 hz2 rfl (by omega) (.slice AF j cF) j (F0.map Fl.val) rfl own1 (some ⟨w3.heap.size, 0, none⟩) 1 1 [.slice A3 k c3] rfl hrd (by simp [Value.oneCell']) (by unfold maxLen; omega) (by omega) hsz ?_; intro v4 w4 own4 hg4; have hpf := PM.field H3.out.1 H3.out.2.2.2.2.2 own1 own4 hg4 (RowB.lower H3.out.2.1 (Nat.zero_le _)) HLN.out H3.out.2.2.2.1 H3.out.2.2.2.2.1; obtain ⟨A4, c4, rfl, -, -⟩ := own_is own4; have z14 : w4.frozen? ⟨gp, 1, none⟩ = false := hpf.2.2.2.free 1; have y14 : w4.cell? ⟨gp, 1, none⟩ = some (.slice AF j cF) := hpf.2.2.2.cell 1; have hgl4 := hpf.2.2.2.lt))
          obtain ⟨M5, F5, nb5, p4⟩ := hpf
          have Q5 := H3.out.2.2.1.frm F5 (by obtain ⟨cs, hq⟩ := H3.out.2.2.1.blk; exact nb5 64 (by decide) (by decide) _ _ hq) (nb5 70 (by decide) (by decide)) (nb5 5 (by decide) (by decide))
          obtain ⟨w5, hw5⟩ : ∃ w5, w4.setCell ⟨gp, 1, none⟩ (.slice A4 (j + 1) c4) = w5 := ⟨_, rfl⟩
          rw [hw5] at M5 Q5
          try rw [hw5]
          have H5 := Lib.hid (And.intro M5 Q5)
          have pwu : IntKind.i64.wrap ((used : Int) + (k : Int)) = (used : Int) + (k : Int) := IntWalk.i64_in _ ⟨by omega, by have := HBl.out; omega⟩
          clear M5 Q5 F5 nb5 p4 hw5 z14 y14 y13 hgl4 own4 hg4 own1 hrd hsz hi0 hz0 hz1 hz2
          have y05 : w5.cell? ⟨gp, 0, none⟩ = some (.int .i64 (fiOf tk (j + 1) : Nat)) := H5.out.1.p.cell 0
          have z05 : w5.frozen? ⟨gp, 0, none⟩ = false := H5.out.1.p.free 0
          have hgl5 := H5.out.1.p.lt
          have hor : bits .or .i64 (fiOf tk (j + 1) : Nat) 1 = ((fiOf tk (j + 1) + 1 : Nat) : Int) := by unfold fiOf; rw [if_neg (by omega)]; split <;> rfl
          have M6 := H5.out.1.setfi ((fiOf tk (j + 1) + 1 : Nat) : Int)
          have Q6 := H5.out.2.frm M6.2 (by obtain ⟨cs, hq⟩ := H5.out.2.blk; intro e; subst e; exact Blk.ne hq H5.out.1.p (by decide) rfl) (fun x cs hx e => by subst e; exact Blk.ne hx H5.out.1.p (by decide) rfl) (fun x cs hx e => by subst e; exact Blk.ne hx H5.out.1.p (by decide) rfl)
          rw [← HT.out.1, ← HT.out.2.2.2.2.2.1] at Q6
          have HZ := Lib.hid (HB'.out.last j M6.1 Q6 (by omega) (by have := HT.out.2.2.2.2.1; omega) HT.out.2.2.2.2.2.2.2.2.2.2.1 J23.out (by have := HBl.out; have := HSZ.out; omega))
          clear M6 Q6
          go_wp2_with fail
          go_step3
          refine (by assumption : ∀ (a : Act) (w : World), Code.wp Try.prog _ _ a w → _) _ _ (hdone _ _ _ ?_)
          exact ⟨gp, fiOf tk (j + 1) + 1, _, _, _, _, _, rfl, rfl, rfl, rfl, rfl, HZ.out⟩
        · by_cases hln0 : L = (n : Int)
          · subst hln0
            have htk := take_some w2 g rm t R kt n ls (byt - used) HQ.out hrm (by omega) (by have := HK.out.2; omega) HT.out.2.2.2.2.2.2.2.2.2.1 (by have := HT.out.2.2.2.1; omega) (by have := HBl.out; omega) (by have := HBl.out; omega)
            rw [HK.out.1] at htk
            have hln : ((chk T tk j).take n).length = n := by rw [List.length_take]; have := HT.out.2.2.2.2.1; omega
            have hall : kt + n = t.bs.length := HK.out.2
            rw [if_pos hall, if_pos hall, decide_eq_true hall] at htk
            have HLN := Lib.hid hln
            clear hln hall
            go_wp2_with fail
            refine htk.mono ?_
            rintro e w3 ⟨v3, rfl, R3, Q3, F3⟩
            clear htk
            obtain ⟨A3, c3, rfl, -, -⟩ := R3.outn HLN.out
            have M3 := HM.out.keepQ HQ.out.blk F3
            obtain ⟨F0, hF0, own0, rr0⟩ := M3.f
            have hF0l : F0.length = j := by rw [← List.length_map (f := Fl.bs), hF0, pre_len]
            rw [hF0l] at own0
            have own1 := World.ownsRow.alloc own0 (.cells #[.slice A3 n c3] 24)
            have hrd := one_rds w3 (.slice A3 n c3) 24
            obtain ⟨j0, hi0, hz0, hz1, hz2⟩ := info_parts info24
            have hsz : w.heap.size ≤ (w3.alloc (.cells #[.slice A3 n c3] 24)).heap.size := (M3.frm.alloc _).size
            have y13 : w3.cell? ⟨gp, 1, none⟩ = some (.slice AF j cF) := M3.p.cell 1
            have jl := J23.out
            have H3 := Lib.hid (And.intro M3 (And.intro R3 (And.intro Q3 (And.intro rr0 (And.intro hF0 hF0l)))))
            clear M3 R3 Q3 F3 rr0 hF0 hF0l own0 y1' hgp2
            go_upto_region 17 with (at_builtin; go_must (refine wpList_append_rds _ rfl _ _ 22 rfl w.heap.size 24 j0 _ 1 24 Try.underlying22 hi0 hz0 hz1 hz2 rfl (by omega) (.slice AF j cF) j (F0.map Fl.val) rfl own1 (some ⟨w3.heap.size, 0, none⟩) 1 1 [.slice A3 n c3] rfl hrd (by simp [Value.oneCell']) (by unfold maxLen; omega) (by omega) hsz ?_; intro v4 w4 own4 hg4; have hpf := PM.field H3.out.1 H3.out.2.2.2.2.2 own1 own4 hg4 (RowB.lower H3.out.2.1 (Nat.zero_le _)) HLN.out H3.out.2.2.2.1 H3.out.2.2.2.2.1; obtain ⟨A4, c4, rfl, -, -⟩ := own_is own4; have z14 : w4.frozen? ⟨gp, 1, none⟩ = false := hpf.2.2.2.free 1; have y14 : w4.cell? ⟨gp, 1, none⟩ = some (.slice AF j cF) := hpf.2.2.2.cell 1; have hgl4 := hpf.2.2.2.lt))
            obtain ⟨M5, F5, nb5, p4⟩ := hpf
            have Q5 := H3.out.2.2.1.frm F5 (by obtain ⟨cs, hq⟩ := H3.out.2.2.1.blk; exact nb5 64 (by decide) (by decide) _ _ hq) (nb5 70 (by decide) (by decide)) (nb5 5 (by decide) (by decide))
            obtain ⟨w5, hw5⟩ : ∃ w5, w4.setCell ⟨gp, 1, none⟩ (.slice A4 (j + 1) c4) = w5 := ⟨_, rfl⟩
            rw [hw5] at M5 Q5
            try rw [hw5]
            have H5 := Lib.hid (And.intro M5 Q5)
            have pwu : IntKind.i64.wrap ((used : Int) + (n : Int)) = (used : Int) + (n : Int) := IntWalk.i64_in _ ⟨by omega, by have := HBl.out; omega⟩
            clear M5 Q5 F5 nb5 p4 hw5 z14 y14 y13 hgl4 own4 hg4 own1 hrd hsz hi0 hz0 hz1 hz2
            have y25 : w5.cell? ⟨gp, 2, none⟩ = some (.slice AD j cD) := H5.out.1.p.cell 2
            obtain ⟨xs, hxs⟩ := H5.out.1.d
            have own1 := World.ownsRow.alloc hxs (.cells #[.int .u64 t.id] 34)
            have hrd := one_rds w5 (.int .u64 t.id) 34
            obtain ⟨j1, hi0, hz0, hz1, hz2⟩ := info_parts info34
            have hsz : w.heap.size ≤ (w5.alloc (.cells #[.int .u64 t.id] 34)).heap.size := (H5.out.1.frm.alloc _).size
            clear hxs
            go_wp2_with (at_builtin; go_must (refine wpList_append_rds _ rfl _ _ 40 rfl w.heap.size 34 j1 _ 1 8 Try.underlying40 hi0 hz0 hz1 hz2 rfl (by omega) (.slice AD j cD) j xs rfl own1 (some ⟨w5.heap.size, 0, none⟩) 1 1 [.int .u64 t.id] rfl hrd (by simp [Value.oneCell']) (by unfold maxLen; omega) (by omega) hsz ?_; intro v6 w6 own6 hg6; have hpn := PM.num H5.out.1 own1 own6 hg6; obtain ⟨A6, c6, rfl, -, -⟩ := own_is own6; have z26 : w6.frozen? ⟨gp, 2, none⟩ = false := hpn.2.2.2.free 2; have y26 : w6.cell? ⟨gp, 2, none⟩ = some (.slice AD j cD) := hpn.2.2.2.cell 2; have hgl6 := hpn.2.2.2.lt))
            obtain ⟨M7, F7, nb7, p6⟩ := hpn
            have Q7 := H5.out.2.frm F7 (by obtain ⟨cs, hq⟩ := H5.out.2.blk; exact nb7 64 (by decide) (by decide) _ _ hq) (nb7 70 (by decide) (by decide)) (nb7 5 (by decide) (by decide))
            rw [List.take_of_length_le (by rw [HT.out.2.2.2.2.1]; exact Nat.le_refl _)] at M7
            rw [HT.out.2.1] at Q7
            have HN := Lib.hid (HB'.out.next M7 Q7 HT.out.2.2.2.2.1 HT.out.2.2.2.2.2.2.2.2.2.2.1 J23.out (by have := HBl.out; have := HSZ.out; omega))
            clear M7 Q7 F7 nb7 p6
            try go_step3
            have hm9 := HBl.out
            refine .inl ⟨rfl, ⟨gp, j + 1, used + n, _, _, rfl, rfl, rfl, rfl, rfl, rfl, rfl, rfl, rfl, HN.out⟩, ?_⟩
            simp [intOf, Array.getD]
            omega
          · have hmin : ¬ L ≤ (n : Int) := by omega
            have htk := take_some w2 g rm t R kt n ls (byt - used) HQ.out hrm (by omega) (by have := HK.out.2; omega) HT.out.2.2.2.2.2.2.2.2.2.1 (by have := HT.out.2.2.2.1; omega) (by have := HBl.out; omega) (by have := HBl.out; omega)
            rw [HK.out.1] at htk
            have hln : ((chk T tk j).take n).length = n := by rw [List.length_take]; have := HT.out.2.2.2.2.1; omega
            have hall : kt + n = t.bs.length := HK.out.2
            rw [if_pos hall, if_pos hall, decide_eq_true hall] at htk
            have HLN := Lib.hid hln
            clear hln hall
            go_wp2_with fail
            refine htk.mono ?_
            rintro e w3 ⟨v3, rfl, R3, Q3, F3⟩
            clear htk
            obtain ⟨A3, c3, rfl, -, -⟩ := R3.outn HLN.out
            have M3 := HM.out.keepQ HQ.out.blk F3
            obtain ⟨F0, hF0, own0, rr0⟩ := M3.f
            have hF0l : F0.length = j := by rw [← List.length_map (f := Fl.bs), hF0, pre_len]
            rw [hF0l] at own0
            have own1 := World.ownsRow.alloc own0 (.cells #[.slice A3 n c3] 24)
            have hrd := one_rds w3 (.slice A3 n c3) 24
            obtain ⟨j0, hi0, hz0, hz1, hz2⟩ := info_parts info24
            have hsz : w.heap.size ≤ (w3.alloc (.cells #[.slice A3 n c3] 24)).heap.size := (M3.frm.alloc _).size
            have y13 : w3.cell? ⟨gp, 1, none⟩ = some (.slice AF j cF) := M3.p.cell 1
            have jl := J23.out
            have H3 := Lib.hid (And.intro M3 (And.intro R3 (And.intro Q3 (And.intro rr0 (And.intro hF0 hF0l)))))
            clear M3 R3 Q3 F3 rr0 hF0 hF0l own0 y1' hgp2
            go_upto_region 17 with (at_builtin; go_must (refine wpList_append_rds _ rfl _ _ 22 rfl w.heap.size 24 j0 _ 1 24 Try.underlying22 hi0 hz0 hz1 hz2 rfl (by omega) (.slice AF j cF) j (F0.map Fl.val) rfl own1 (some ⟨w3.heap.size, 0, none⟩) 1 1 [.slice A3 n c3] rfl hrd (by simp [Value.oneCell']) (by unfold maxLen; omega) (by omega) hsz ?_; intro v4 w4 own4 hg4; have hpf := PM.field H3.out.1 H3.out.2.2.2.2.2 own1 own4 hg4 (RowB.lower H3.out.2.1 (Nat.zero_le _)) HLN.out H3.out.2.2.2.1 H3.out.2.2.2.2.1; obtain ⟨A4, c4, rfl, -, -⟩ := own_is own4; have z14 : w4.frozen? ⟨gp, 1, none⟩ = false := hpf.2.2.2.free 1; have y14 : w4.cell? ⟨gp, 1, none⟩ = some (.slice AF j cF) := hpf.2.2.2.cell 1; have hgl4 := hpf.2.2.2.lt))
            obtain ⟨M5, F5, nb5, p4⟩ := hpf
            have Q5 := H3.out.2.2.1.frm F5 (by obtain ⟨cs, hq⟩ := H3.out.2.2.1.blk; exact nb5 64 (by decide) (by decide) _ _ hq) (nb5 70 (by decide) (by decide)) (nb5 5 (by decide) (by decide))
            obtain ⟨w5, hw5⟩ : ∃ w5, w4.setCell ⟨gp, 1, none⟩ (.slice A4 (j + 1) c4) = w5 := ⟨_, rfl⟩
            rw [hw5] at M5 Q5
            try rw [hw5]
            have H5 := Lib.hid (And.intro M5 Q5)
            have pwu : IntKind.i64.wrap ((used : Int) + (n : Int)) = (used : Int) + (n : Int) := IntWalk.i64_in _ ⟨by omega, by have := HBl.out; omega⟩
            clear M5 Q5 F5 nb5 p4 hw5 z14 y14 y13 hgl4 own4 hg4 own1 hrd hsz hi0 hz0 hz1 hz2
            have y25 : w5.cell? ⟨gp, 2, none⟩ = some (.slice AD j cD) := H5.out.1.p.cell 2
            obtain ⟨xs, hxs⟩ := H5.out.1.d
            have own1 := World.ownsRow.alloc hxs (.cells #[.int .u64 t.id] 34)
            have hrd := one_rds w5 (.int .u64 t.id) 34
            obtain ⟨j1, hi0, hz0, hz1, hz2⟩ := info_parts info34
            have hsz : w.heap.size ≤ (w5.alloc (.cells #[.int .u64 t.id] 34)).heap.size := (H5.out.1.frm.alloc _).size
            clear hxs
            go_wp2_with (at_builtin; go_must (refine wpList_append_rds _ rfl _ _ 40 rfl w.heap.size 34 j1 _ 1 8 Try.underlying40 hi0 hz0 hz1 hz2 rfl (by omega) (.slice AD j cD) j xs rfl own1 (some ⟨w5.heap.size, 0, none⟩) 1 1 [.int .u64 t.id] rfl hrd (by simp [Value.oneCell']) (by unfold maxLen; omega) (by omega) hsz ?_; intro v6 w6 own6 hg6; have hpn := PM.num H5.out.1 own1 own6 hg6; obtain ⟨A6, c6, rfl, -, -⟩ := own_is own6; have z26 : w6.frozen? ⟨gp, 2, none⟩ = false := hpn.2.2.2.free 2; have y26 : w6.cell? ⟨gp, 2, none⟩ = some (.slice AD j cD) := hpn.2.2.2.cell 2; have hgl6 := hpn.2.2.2.lt))
            obtain ⟨M7, F7, nb7, p6⟩ := hpn
            have Q7 := H5.out.2.frm F7 (by obtain ⟨cs, hq⟩ := H5.out.2.blk; exact nb7 64 (by decide) (by decide) _ _ hq) (nb7 70 (by decide) (by decide)) (nb7 5 (by decide) (by decide))
            rw [List.take_of_length_le (by rw [HT.out.2.2.2.2.1]; exact Nat.le_refl _)] at M7
            rw [HT.out.2.1] at Q7
            have HN := Lib.hid (HB'.out.next M7 Q7 HT.out.2.2.2.2.1 HT.out.2.2.2.2.2.2.2.2.2.2.1 J23.out (by have := HBl.out; have := HSZ.out; omega))
            clear M7 Q7 F7 nb7 p6
            try go_step3
            have hm9 := HBl.out
            refine .inl ⟨rfl, ⟨gp, j + 1, used + n, _, _, rfl, rfl, rfl, rfl, rfl, rfl, rfl, rfl, rfl, HN.out⟩, ?_⟩
            simp [intOf, Array.getD]
            omega
    · have hjT : RowKit.Hid (j = T.length) := (show j = T.length by have := HB.j1; omega)
      have hj1 : 1 ≤ j := by have := HA.out.2.2.1; omega
      have hd : T.drop j = [] := List.drop_of_length_le (by omega)
      have hq := HB.q
      rw [hd] at hq
      have hf := front_none wr g rm (tkj tk j) ls (byt - used) hq hrm
      clear HB hq hj hs9 hs35 hL hus
      go_wp2_with fail
      refine hf.mono ?_
      rintro e wq ⟨rfl, hwx⟩
      have hwx2 := hwx.symm
      clear hwx
      subst hwx2
      go_wp2_with fail
      refine (hlsz _).mono ?_
      rintro e wq ⟨rfl, hwx⟩
      have hwx2 := hwx.symm
      clear hwx
      subst hwx2
      rw [HSZ.out]
      have hL := HBl.out.1
      have HZ := Lib.hid (HB'.out.done HA.out.2.1 hj1 (Frm.refl No _))
      go_wp2_with fail
      go_step3
      exact .inr ⟨rfl, gp, fiOf tk j, _, _, _, _, _, rfl, rfl, rfl, rfl, rfl, HZ.out⟩
  · intro hpass
    go_wp2_with fail
    refine hask.mono ?_
    rintro e wq ⟨rfl, hwx⟩
    have hwx2 := hwx.symm
    clear hwx
    subst hwx2
    go_wp2_with fail
    refine htz.mono ?_
    rintro e w2 ⟨rfl, F2⟩
    obtain ⟨gp, hgp⟩ : ∃ gp, w2.heap.size = gp := ⟨_, rfl⟩
    have F12 := HA.out.2.2.2.2.1.thenN F2
    have B3 := Blk.new w2 #[.int .i64 0, .slice none 0 0, .slice none 0 0] 42
    rw [hgp] at B3
    have F3 := (Frm.refl No w2).alloc (.cells #[.int .i64 0, .slice none 0 0, .slice none 0 0] 42)
    have lt1 : gr < w2.heap.size := by have := HA.out.2.2.2.2.2.1; have := F2.size; have := HA.out.2.2.2.2.2.2; omega
    have H1 := Lib.hid (show PB w (w2.alloc (.cells #[.int .i64 0, .slice none 0 0, .slice none 0 0] 42)) g gr gp rm T tk ls byt room 0 0 (.slice none 0 0) (.slice none 0 0) from
      ⟨by rw [List.drop_zero]; show IsQ _ g rm T tk ls (byt - ((0 : Nat) : Int)); rw [Int.natCast_zero, Int.sub_zero]; exact HA.out.1.frmN (F12.thenN F3), B3, F3.blk (F2.blk HA.out.2.2.2.1 (fun h => h)) (fun h => h), RowF.nil _ _, ⟨[], World.ownsRow_nil _ _ _ _⟩, (F12.thenN F3).mono (fun _ h => h.elim), rfl, by omega, fun h => by omega, by omega, by omega, by omega, by have := F12.size; omega, by have := HA.out.2.2.2.2.2.2; omega⟩)
    clear F12 B3 F3 lt1 F2
    go_wp2_with fail
    go_step3
    refine (by assumption : ∀ (a : Act) (w : World), Code.wp Try.prog _ _ a w → _) _ _ (hpass _ _ ?_)
    exact ⟨gp, 0, 0, _, _, rfl, rfl, rfl, rfl, rfl, rfl, rfl, rfl, rfl, H1.out⟩
end Go.Proofs.Ytccaaldfccgncaa.A
