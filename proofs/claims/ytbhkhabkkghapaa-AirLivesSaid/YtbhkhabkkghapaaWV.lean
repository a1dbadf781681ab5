/- AirLives' walk. -/
import Derived.Test.YtbhkhabkkghapaaWU
import Derived.Deep.CutBlock
import Derived.Deep.DeepCutAuto
namespace Go.Proofs.Ytbhkhabkkghapaa.A
open Go.RowKit Go.Proofs.Ytbhkhabkkghapaa.K Go.Proofs.Ytbhkhabkkghapaa.N Go.Proofs.Ytbhkhabkkghapaa.F
set_option linter.unusedVariables false
set_option linter.unusedSimpArgs false

set_option maxRecDepth 100000 in
set_option maxHeartbeats 16000000 in
theorem lives_walk (A2 : Option Addr) (n2 c2 : Nat) (ops : List AOp) (w : World) (hI : IsOps w A2 n2 ops) :
    Calls Try.prog 5 #[.slice A2 n2 c2] w fun e w' => e = .returned (.bool true) ∧ Frm No w w' := by
  have hn29 : n2 ≤ 9223372036854775807 := hI.2.1
  go_enter Try.func5, Try.ntmps5
  go_wp2_with fail
  refine (new_ok w w.heap.size).mono ?_
  rintro e w1 ⟨rfl, W1, F1⟩
  obtain ⟨g, hg⟩ : ∃ g, w.heap.size = g := ⟨_, rfl⟩
  rw [hg] at W1
  rw [hg]
  have hgl : w.heap.size ≤ g := by omega
  have hgl2 : g ≤ w.heap.size := by omega
  obtain ⟨gx, hgx⟩ : ∃ gx, w1.heap.size = gx := ⟨_, rfl⟩
  have hgxl : w.heap.size ≤ gx := by have := F1.size; omega
  have HX : Blk (w1.alloc (.cells #[.slice none 0 0, .int .i64 0, .int .i64 0] 39)) gx #[.slice none 0 0, .int .i64 0, .int .i64 0] 39 := by rw [← hgx]; exact Blk.new _ _ _
  have FA := (Frm.refl No w1).alloc (.cells #[.slice none 0 0, .int .i64 0, .int .i64 0] 39)
  have H0 := Lib.hid (show LV w (w1.alloc (.cells #[.slice none 0 0, .int .i64 0, .int .i64 0] 39)) g gx 0 from ⟨none, none, [], 0, 0, W1.frmN FA, ⟨by simp, _, [], HX, RowS.nil _ _⟩, (fun x h => by cases h), fits_nil, by simp, by simp, by omega, F1.thenN FA⟩)
  clear hg W1 F1 HX FA
  go_wp2_with fail

  go_loopw [5] (fun vi wr => ∃ j : Nat, vi = .int .i64 j ∧ j ≤ 400 ∧ LV w wr g gx j) (fun vi _ => 400 - (intOf vi).toNat)
  case atStart => exact ⟨0, rfl, by omega, H0.out⟩
  case round =>
    clear H0
    obtain ⟨j, rfl, hj, k, kx, L, se, lo, hW, hX, hap, hF, hsum, s1, l0, F⟩ := hrel
    have hL := hW.1
    by_cases hgo : j < n2 ∧ j < 400
    · obtain ⟨hj2, hj3⟩ := hgo
      have j0 : (0 : Int) ≤ (j : Int) := Int.natCast_nonneg _
      have j1 : (j : Int) < (n2 : Int) := by omega
      have j2 : (j : Int) < 400 := by omega
      obtain ⟨ad2, ⟨kd, oi, oa, on, oA, l, oc, bs⟩, rfl, hB, hbl, hb256, hl63, o0, o1, o2, o3, o4⟩ := hI.at_ F hj2
      simp only at hB hbl hb256 hl63 o0 o1 o2 o3 o4
      obtain ⟨go, hgo⟩ : ∃ go, wr.heap.size = go := ⟨_, rfl⟩
      obtain ⟨wo, hwo⟩ : ∃ wo, wr.alloc (.cells #[.int .i64 kd, .int .i64 oi, .int .i64 oa, .int .i64 on, .slice oA l oc] 41) = wo := ⟨_, rfl⟩
      have hO : Blk wo go #[.int .i64 kd, .int .i64 oi, .int .i64 oa, .int .i64 on, .slice oA l oc] 41 := by rw [← hgo, ← hwo]; exact Blk.new _ _ _
      have G1 : Frm No wr wo := by rw [← hwo]; exact (Frm.refl No wr).alloc _
      have W1 := hW.frmN G1
      have X1 := hX.frmN G1
      have F1 := F.thenN G1
      have B1 : g ≤ wo.heap.size := by have := F1.size; omega
      have HB := Lib.hid (And.intro hF (And.intro hB (And.intro hbl (And.intro hb256 (And.intro hap (And.intro hO (And.intro X1 (And.intro F1 (And.intro W1 hsum)))))))))
      obtain ⟨y0, y1, y2, y3, y4⟩ := Blk.cells5 hO
      clear hW hX G1 hF hB hbl hb256 hap X1 W1 hO hsum
      by_cases hl : (l : Int) ≤ 4200 ∧ ((j : Int) ≤ 40 ∨ (l : Int) ≤ 20)
      · have hl2 : ¬ ((4200 : Int) < (l : Int)) := by omega
        go_upto_region 6 with fail
        clear o0 o1 o2 o3 o4 hgo hwo
        go_cut [50] (fun v50 wx => v50 = .bool false ∧ wx = wo)
        case first =>
          by_cases hj40 : (40 : Int) < (j : Int)
          · have hl20 : ¬ (20 : Int) < (l : Int) := by omega
            clear hl
            go_wp2_with fail
            go_meet
            exact ⟨rfl, rfl⟩
          · clear hl
            go_wp2_with fail
            go_meet
            exact ⟨rfl, rfl⟩
        case rest =>
          obtain ⟨rfl, hwx⟩ := hcut
          have hwx2 := hwx.symm
          clear hwx
          subst hwx2
          clear hl hl2
          go_upto_block 2 with fail
          go_cut [7] (fun v7 wx => v7 = .bool true ∧ LV w wx g gx (j + 1))
          case first =>
            by_cases hk0 : kd = 0
            · have hk0' : (kd == 0) = true := by simpa using hk0
              have HK := Lib.hid hk0
              clear hk0
              go_wp2_with fail
              refine sw0 hgl hgl2 hgxl l0 s1 hL hl63 B1 hj HB (fun _ _ _ _ _ h => h) ?_
              intros
              rename_i hlv
              go_wp2_with fail
              go_meet
              exact ⟨rfl, hlv⟩
            · have hk0' : (kd == 0) = false := by simpa using hk0
              clear hk0
              by_cases hk1 : kd = 1
              · have hk1' : (kd == 1) = true := by simpa using hk1
                have HK := Lib.hid hk1
                clear hk1
                go_wp2_with fail
                refine (take_any wo g g k L se lo oi HB.out.2.2.2.2.2.2.2.2.1 HB.out.1 B1).mono ?_
                rintro e w3 ⟨⟨bA, bn, bc⟩, rfl, hb3, ⟨k3, W3, a3⟩, f3⟩
                obtain ⟨X3, ap3, F3, b3, -⟩ := mid_ HB.out.2.2.2.2.2.2.2.2.1 HB.out.2.2.2.2.2.2.1 HB.out.2.2.2.2.1 HB.out.2.2.2.2.2.2.2.1 hgl a3 (f3.mono fun x hx => .inl hx)
                have hO3 := b3 _ _ HB.out.2.2.2.2.2.1
                obtain ⟨q0, q1, q2, q3, q4⟩ := Blk.cells5 hO3
                have B3 : g ≤ w3.heap.size := by have := F3.size; omega
                have HW3 := Lib.hid (And.intro W3 (And.intro X3 (And.intro ap3 (And.intro F3 hb3))))
                clear W3 X3 ap3 F3 b3 hO3 a3 f3 hb3
                simp only [Bl.val]
                go_wp2_with fail
                refine (rtake_any w3 g gx kx L se lo oi HW3.out.2.1 B3).mono ?_
                rintro e w5 ⟨⟨cA, cn, cc⟩, rfl, hb5, ⟨k5, X5, a5⟩, f5⟩
                obtain ⟨W5, ap5, F5, -, b5⟩ := fin_ HW3.out.1 HW3.out.2.1 HW3.out.2.2.1 HW3.out.2.2.2.1 hgl hgxl a5 (f5.mono fun x hx => .inl hx)
                have t1 := (b5 _ _ HW3.out.2.2.2.2).str
                have t2 := hb5.str
                have HW5 := Lib.hid (And.intro W5 (And.intro X5 (And.intro ap5 F5)))
                clear W5 X5 ap5 F5 a5 f5 b5 hb5
                simp only [Bl.val] at t1 t2 ⊢
                obtain ⟨R, hR⟩ : ∃ R, (if askI L oi = 0 then L.getD oi.toNat [] else []) = R := ⟨_, rfl⟩
                rw [hR] at t1 t2
                clear hR
                go_wp2_with fail
                go_meet
                have W5 := HW5.out.1
                have X5 := HW5.out.2.1
                have hsum := HB.out.2.2.2.2.2.2.2.2.2
                refine ⟨by simp, ?_⟩
                by_cases hE : askI L oi = 0
                · have hin := askI_in hE
                  have hcl := cutL_len (L := L) (i := oi.toNat) (by omega)
                  rw [if_pos hE] at W5 X5
                  exact ⟨_, k5, _, _, _, W5, X5, HW5.out.2.2.1, fits_cut HB.out.1, by omega, by push_cast; omega, by omega, HW5.out.2.2.2⟩
                · rw [if_neg hE] at W5 X5
                  exact ⟨_, k5, _, _, _, W5, X5, HW5.out.2.2.1, HB.out.1, hsum, by push_cast; omega, l0, HW5.out.2.2.2⟩
              · have hk1' : (kd == 1) = false := by simpa using hk1
                clear hk1
                by_cases hk2 : kd = 2
                · have hk2' : (kd == 2) = true := by simpa using hk2
                  have HK := Lib.hid hk2
                  clear hk2
                  go_wp2_with fail
                  refine sw2 hgl hgl2 hgxl l0 s1 hL hl63 B1 hj HB (fun _ _ _ _ _ h => h) ?_
                  intros
                  rename_i hlv
                  go_wp2_with fail
                  go_meet
                  exact ⟨rfl, hlv⟩
                · have hk2' : (kd == 2) = false := by simpa using hk2
                  clear hk2
                  by_cases hk3 : kd = 3
                  · have hk3' : (kd == 3) = true := by simpa using hk3
                    have HK := Lib.hid hk3
                    clear hk3
                    go_wp2_with fail
                    refine sw3 hgl hgl2 hgxl l0 s1 hL hl63 B1 hj HB (fun _ _ _ _ _ h => h) ?_
                    intros
                    rename_i hlv
                    go_wp2_with fail
                    go_meet
                    exact ⟨rfl, hlv⟩
                  · have hk3' : (kd == 3) = false := by simpa using hk3
                    clear hk3
                    by_cases hk4 : kd = 4
                    · have hk4' : (kd == 4) = true := by simpa using hk4
                      have HK := Lib.hid hk4
                      clear hk4
                      go_wp2_with fail
                      refine sw4 hgl hgl2 hgxl l0 s1 hL hl63 B1 hj HB (fun _ _ _ _ _ h => h) ?_
                      intros
                      rename_i hlv
                      go_wp2_with fail
                      go_meet
                      exact ⟨rfl, hlv⟩
                    · have hk4' : (kd == 4) = false := by simpa using hk4
                      clear hk4
                      by_cases hk5 : kd = 5
                      · have hk5' : (kd == 5) = true := by simpa using hk5
                        have HK := Lib.hid hk5
                        clear hk5
                        go_wp2_with fail
                        refine (clear_ok wo g g k L se lo HB.out.2.2.2.2.2.2.2.2.1 (by have := HB.out.2.2.2.2.2.2.2.2.2; omega) (by have := HB.out.2.2.2.2.2.2.2.2.2; omega)).mono ?_
                        rintro e w3 ⟨rfl, W3, f3⟩
                        obtain ⟨X3, ap3, F3, -, -⟩ := mid_ (k3 := none) HB.out.2.2.2.2.2.2.2.2.1 HB.out.2.2.2.2.2.2.1 HB.out.2.2.2.2.1 HB.out.2.2.2.2.2.2.2.1 hgl (.inr fun x hx => by cases hx) (f3.mono fun x hx => .inl hx)
                        obtain ⟨A, c, SS, hxb, -, -⟩ := X3.cells
                        obtain ⟨n, hn⟩ : ∃ n, L.length = n := ⟨_, rfl⟩
                        rw [hn] at hxb
                        have hn9 : n ≤ 256 := by omega
                        have k0 : w3.cell? ⟨gx, 0, none⟩ = some (.slice A n c) := hxb.cell 0
                        have k2 : w3.cell? ⟨gx, 2, none⟩ = some (.int .i64 lo) := hxb.cell 2
                        have z0 : w3.frozen? ⟨gx, 0, none⟩ = false := hxb.free 0
                        have z2 : w3.frozen? ⟨gx, 2, none⟩ = false := hxb.free 2
                        have hgl3 := hxb.lt
                        have hlo : lo ≤ 400 := by have := HB.out.2.2.2.2.2.2.2.2.2; omega
                        have pw : IntKind.i64.wrap (lo + (n : Int)) = lo + (n : Int) := IntWalk.i64_in _ ⟨by omega, by omega⟩
                        have fin := (hxb.set 0 (.slice none 0 0)).set 2 (.int .i64 (lo + (n : Int)))
                        have f4 := ((Frm.refl (fun x => x = gx) w3).self 0 (.slice none 0 0)).self 2 (.int .i64 (lo + (n : Int)))
                        have HF5 := Lib.hid (fin_ (kx5 := none) W3 X3 ap3 F3 hgl hgxl (.inr fun x hx => by cases hx) (f4.mono fun x hx => .inl hx))
                        have HF6 := Lib.hid (And.intro fin hn)
                        clear fin f4 W3 X3 ap3 F3 hxb hn f3
                        go_wp2_with fail
                        go_region
                        clear pw
                        go_wp2_with fail
                        go_meet
                        have FD := (Frm.refl No ((w3.setCell ⟨gx, 0, none⟩ (.slice none 0 0)).setCell ⟨gx, 2, none⟩ (.int .i64 (lo + (n : Int))))).drew
                        have hsum := HB.out.2.2.2.2.2.2.2.2.2
                        have hn := HF6.out.2
                        have X5 : IsR ((w3.setCell ⟨gx, 0, none⟩ (.slice none 0 0)).setCell ⟨gx, 2, none⟩ (.int .i64 (lo + (n : Int)))) g gx none [] se (lo + (n : Int)) := ⟨by simp, _, [], by simpa using HF6.out.1, RowS.nil _ _⟩
                        have W5 := HF5.out.1
                        rw [hn] at W5
                        exact ⟨rfl, none, none, [], _, _, W5.frmN FD, X5.frmN FD, (fun x hx => by cases hx), fits_nil, by simp; omega, by push_cast; omega, by omega, HF5.out.2.2.1.thenN FD⟩
                      · have hk5' : (kd == 5) = false := by simpa using hk5
                        clear hk5
                        go_wp2_with fail
                        go_meet
                        exact ⟨rfl, k, kx, _, _, _, HB.out.2.2.2.2.2.2.2.2.1, HB.out.2.2.2.2.2.2.1, HB.out.2.2.2.2.1, HB.out.1, HB.out.2.2.2.2.2.2.2.2.2, by push_cast; omega, l0, HB.out.2.2.2.2.2.2.2.1⟩
          case rest =>
            clear y0 y1 y2 y3 y4 F1 B1 HB s1 l0 hL
            obtain ⟨rfl, k2, kx2, L2, se2, lo2, W2, X2, ap2, hF2, hs2, s1, l0, F2⟩ := hcut
            have hL2 := W2.1
            obtain ⟨A, c, SS, hxb, -, -⟩ := X2.cells
            obtain ⟨n, hn⟩ : ∃ n, L2.length = n := ⟨_, rfl⟩
            have HX := Lib.hid (And.intro W2 (And.intro X2 (And.intro ap2 (And.intro hF2 (And.intro hs2 F2)))))
            rw [hn] at hxb hL2
            go_wp2_with fail
            refine (counts_ok _ g g k2 L2 se2 lo2 HX.out.1).mono ?_
            rintro e w4 ⟨rfl, f4⟩
            have W4 := HX.out.1.frmN f4
            have hxb4 := f4.blk hxb (fun h => h)
            have k0 : w4.cell? ⟨gx, 0, none⟩ = some (.slice A n c) := hxb4.cell 0
            have k1 : w4.cell? ⟨gx, 1, none⟩ = some (.int .i64 se2) := hxb4.cell 1
            have k2' : w4.cell? ⟨gx, 2, none⟩ = some (.int .i64 lo2) := hxb4.cell 2
            have HY := Lib.hid (And.intro W4 (And.intro hn f4))
            have hln : ∀ q, Calls Try.prog 12 #[.pointer (some ⟨g, 0, none⟩)] (w4.drewN q) fun e w' => e = .returned (.int .i64 n) ∧ w' = w4.drewN q := fun q => by
              have := len_ok _ g g k2 L2 se2 lo2 (W4.frmN ((Frm.refl No w4).drewN q))
              rwa [hn] at this
            have HLN := Lib.hid hln
            clear W2 X2 ap2 hF2 hs2 F2 hxb hn W4 hxb4 f4 hln hgx
            go_wp2_with fail
            go_quiet (first | (go_at_call 12; exact Calls.quiet_of_same (HLN.out _)))
            go_wp2_with fail
            go_roundw
            case rel => exact ⟨j + 1, by go_num, by omega, k2, kx2, L2, se2, lo2, (HY.out.1).frmN ((Frm.refl No w4).drewN _), ((HX.out.2.1).frmN HY.out.2.2).frmN ((Frm.refl No w4).drewN _), HX.out.2.2.1, HX.out.2.2.2.1, HX.out.2.2.2.2.1, s1, l0, (HX.out.2.2.2.2.2.thenN HY.out.2.2).drewN _⟩
            case measure => simp [intOf]; omega
      · go_upto_region 6 with fail
        clear o0 o1 o2 o3 o4 hgo hwo
        by_cases h42 : (4200 : Int) < (l : Int)
        · go_wp2_with fail
          refine (alive_yes _).mono ?_
          rintro e w7 ⟨rfl, f7⟩
          go_wp2_with fail
          go_ret
          exact ⟨rfl, F1.thenN f7⟩
        · have h40 : (40 : Int) < (j : Int) := by omega
          have h20 : (20 : Int) < (l : Int) := by omega
          clear hl
          go_wp2_with fail
          refine (alive_yes _).mono ?_
          rintro e w7 ⟨rfl, f7⟩
          go_wp2_with fail
          go_ret
          exact ⟨rfl, F1.thenN f7⟩
    · have HH := Lib.hid (And.intro hW (And.intro hX (And.intro hap (And.intro hF F))))
      clear F hW hX hap hF hsum s1 l0
      by_cases hj2 : j < n2
      · have j1 : (j : Int) < (n2 : Int) := by omega
        have j2 : ¬ (j : Int) < 400 := by omega
        clear hgo
        obtain ⟨A, c, SS, hxb, -, hxr⟩ := HH.out.2.1.cells
        obtain ⟨n, hn⟩ : ∃ n, L.length = n := ⟨_, rfl⟩
        have hall := all_ok wr.drew g g k L se lo (HH.out.1.frmN (Frm.refl No wr).drew) HH.out.2.2.2.1
        rw [hn] at hxb hxr hall
        have hn2 : n ≤ 256 := by omega
        have k0 : wr.cell? ⟨gx, 0, none⟩ = some (.slice A n c) := hxb.cell 0
        have HXB := Lib.hid (And.intro hxb (And.intro hxr hn))
        clear hxb hxr hn
        go_wp2_with fail
        refine wp_region_N (S := fun w' => w'.cell? ⟨gx, 0, none⟩ = some (.slice A n c)) 99 (by kernel_rfl) k0 (fun hHeld => ?_)
        refine wpAnyN_take (i := 0) (v := ?rnv5r28x5_0) rfl (by kernel_rfl) (by kernel_rfl) (by kernel_rfl) (fun _ _ _ h => h) (by decide) (by kernel_rfl) (Or.inl ⟨by rfl, ?rny5r28x5_0⟩) (by assumption) ?rnr5r28x5_0
        case rny5r28x5_0 => (intro w hSw; (try dsimp only at hSw); go_simp; try with_reducible rfl)
        try simp only [Act.put, List.setIfInBounds_toArray, List.set_cons_zero, List.set_cons_succ, List.getElem_toArray, List.getElem_cons_zero, List.getElem_cons_succ]
        refine wpAnyN_take (i := 2) (v := ?rnv5r28x5_2) rfl (by kernel_rfl) (by kernel_rfl) (by kernel_rfl) (fun _ _ _ h => h) (by decide) (by kernel_rfl) (Or.inl ⟨by rfl, ?rny5r28x5_2⟩) (by assumption) ?rnr5r28x5_2
        case rny5r28x5_2 => (intro w hSw; (try dsimp only at hSw); go_simp; try with_reducible rfl)
        try simp only [Act.put, List.setIfInBounds_toArray, List.set_cons_zero, List.set_cons_succ, List.getElem_toArray, List.getElem_cons_zero, List.getElem_cons_succ]
        refine wpAnyN_take (i := 3) (v := ?rnv5r28x5_3) rfl (by kernel_rfl) (by kernel_rfl) (by kernel_rfl) (fun _ _ _ h => h) (by decide) (by kernel_rfl) (Or.inl ⟨by rfl, ?rny5r28x5_3⟩) (by assumption) ?rnr5r28x5_3
        case rny5r28x5_3 => (intro w hSw; (try dsimp only at hSw); go_simp; try with_reducible rfl)
        try simp only [Act.put, List.setIfInBounds_toArray, List.set_cons_zero, List.set_cons_succ, List.getElem_toArray, List.getElem_cons_zero, List.getElem_cons_succ]
        refine wpAnyN_take (i := 4) (v := ?rnv5r28x5_4) rfl (by kernel_rfl) (by kernel_rfl) (by kernel_rfl) (fun _ _ _ h => h) (by decide) (by kernel_rfl) (Or.inl ⟨by rfl, ?rny5r28x5_4⟩) (by assumption) ?rnr5r28x5_4
        case rny5r28x5_4 => (intro w hSw; (try dsimp only at hSw); go_simp; try with_reducible rfl)
        try simp only [Act.put, List.setIfInBounds_toArray, List.set_cons_zero, List.set_cons_succ, List.getElem_toArray, List.getElem_cons_zero, List.getElem_cons_succ]
        refine wpAnyN_take (i := 5) (v := ?rnv5r28x5_5) rfl (by kernel_rfl) (by kernel_rfl) (by kernel_rfl) (fun _ _ _ h => h) (by decide) (by kernel_rfl) (Or.inl ⟨by rfl, ?rny5r28x5_5⟩) (by assumption) ?rnr5r28x5_5
        case rny5r28x5_5 => (intro w hSw; (try dsimp only at hSw); go_simp; try with_reducible rfl)
        try simp only [Act.put, List.setIfInBounds_toArray, List.set_cons_zero, List.set_cons_succ, List.getElem_toArray, List.getElem_cons_zero, List.getElem_cons_succ]
        refine wpAnyN_one (i := 1) (by kernel_rfl) rfl (fun K hK => ?_)
        go_simp
        refine hall.mono ?_
        rintro e w3 ⟨A3, c3, k3, S3, rfl, R3, f3⟩
        have F3 := ((Frm.refl No wr).drew).thenN f3
        have k03 : w3.cell? ⟨gx, 0, none⟩ = some (.slice A n c) := (F3.blk HXB.out.1 (fun h => h)).cell 0
        have HR3 := Lib.hid (And.intro R3 F3)
        clear R3 F3 f3
        go_wp2_with fail
        refine hK.out _ _ (fun _ => ?_) (fun hHeld => ?_)
        · exact k03
        have hHeld := hHeld (by decide)
        clear hK K
        try simp only [Act.put, List.setIfInBounds_toArray, List.set_cons_zero, List.set_cons_succ, List.getElem_toArray, List.getElem_cons_zero, List.getElem_cons_succ]
        refine wpAnyN_one (i := 6) (by kernel_rfl) rfl (fun K hK => ?_)
        go_simp
        refine (same_ok w3 _ _ _ _ A3 A n c3 c S3 SS L HXB.out.2.2 hn2 HR3.out.1 (HXB.out.2.1.frmN HR3.out.2)).mono ?_
        rintro e w5 ⟨rfl, f5⟩
        have k05 : w5.cell? ⟨gx, 0, none⟩ = some (.slice A n c) := ((HR3.out.2.thenN f5).blk HXB.out.1 (fun h => h)).cell 0
        go_wp2_with fail
        refine hK.out _ _ (fun _ => ?_) (fun hHeld => ?_)
        · exact k05
        have hHeld := hHeld (by decide)
        clear hK K
        try simp only [Act.put, List.setIfInBounds_toArray, List.set_cons_zero, List.set_cons_succ, List.getElem_toArray, List.getElem_cons_zero, List.getElem_cons_succ]
        refine wpAnyN_take (i := 7) (v := ?rnv5r28x5_7) rfl (by kernel_rfl) (by kernel_rfl) (by kernel_rfl) (fun _ _ _ h => h) (by decide) (by kernel_rfl) (Or.inl ⟨by rfl, ?rny5r28x5_7⟩) (by assumption) ?rnr5r28x5_7
        case rny5r28x5_7 => (intro w hSw; (try dsimp only at hSw); go_simp; try with_reducible rfl)
        try simp only [Act.put, List.setIfInBounds_toArray, List.set_cons_zero, List.set_cons_succ, List.getElem_toArray, List.getElem_cons_zero, List.getElem_cons_succ]
        refine wpAnyN_done (by kernel_rfl) ?_ _
        have F5 := HH.out.2.2.2.2.thenN (HR3.out.2.thenN f5)
        have HZ : Zero (w5.alloc (.cells #[.bool false, .slice none 0 0, .int .i64 0, .int .i64 0] 48)) w5.heap.size := Blk.new _ _ _
        have F6 := F5.alloc (.cells #[.bool false, .slice none 0 0, .int .i64 0, .int .i64 0] 48)
        have HH6 := Lib.hid (And.intro HZ F6)
        clear HZ F6 F5 f5 k05 k0 k03 hHeld hall
        go_wp2_with fail
        refine (clear_nil _).mono ?_
        rintro e w6 ⟨rfl, rfl⟩
        go_wp2_with fail
        refine (take_six _ none 0 (ask_nil _ 0)).mono ?_
        rintro e w7 ⟨rfl, rfl⟩
        go_wp2_with fail
        refine (counts_nil _).mono ?_
        rintro e w8 ⟨rfl, rfl⟩
        go_wp2_with fail
        refine (alive_yes _).mono ?_
        rintro e w9 ⟨rfl, f9⟩
        have HZ9 : Zero w9 w5.heap.size := f9.blk HH6.out.1 (fun h => h)
        have F9 := HH6.out.2.thenN f9
        have HH9 := Lib.hid (And.intro HZ9 F9)
        clear HZ9 F9 f9
        go_wp2_with fail
        refine (send_nil _ none 0 0).mono ?_
        rintro e w10 ⟨rfl, rfl⟩
        go_wp2_with fail
        refine (send_zero _ _ none 0 0 HH9.out.1).mono ?_
        rintro e w10 ⟨rfl, rfl⟩
        go_wp2_with fail
        refine (lose_six _ _ 0 (ask_zero _ _ 0 HH9.out.1)).mono ?_
        rintro e w10 ⟨rfl, rfl⟩
        go_wp2_with fail
        refine (move_six _ none 0 0 (ask_nil _ 0)).mono ?_
        rintro e w10 ⟨rfl, rfl⟩
        go_wp2_with fail
        refine (spoil_six _ _ 0 0 0 (ask_zero _ _ 0 HH9.out.1)).mono ?_
        rintro e w10 ⟨rfl, rfl⟩
        go_wp2_with fail
        refine (len_nil _).mono ?_
        rintro e w10 ⟨rfl, rfl⟩
        go_wp2_with fail
        refine (len_zero _ _ HH9.out.1).mono ?_
        rintro e w10 ⟨rfl, rfl⟩
        go_wp2_with fail
        go_ret
        exact ⟨rfl, HH9.out.2⟩
      · have j1 : ¬ (j : Int) < (n2 : Int) := by omega
        clear hgo
        obtain ⟨A, c, SS, hxb, -, hxr⟩ := HH.out.2.1.cells
        obtain ⟨n, hn⟩ : ∃ n, L.length = n := ⟨_, rfl⟩
        have hall := all_ok wr.drew g g k L se lo (HH.out.1.frmN (Frm.refl No wr).drew) HH.out.2.2.2.1
        rw [hn] at hxb hxr hall
        have hn2 : n ≤ 256 := by omega
        have k0 : wr.cell? ⟨gx, 0, none⟩ = some (.slice A n c) := hxb.cell 0
        have HXB := Lib.hid (And.intro hxb (And.intro hxr hn))
        clear hxb hxr hn
        go_wp2_with fail
        refine wp_region_N (S := fun w' => w'.cell? ⟨gx, 0, none⟩ = some (.slice A n c)) 99 (by kernel_rfl) k0 (fun hHeld => ?_)
        refine wpAnyN_take (i := 0) (v := ?rnv5r28x6_0) rfl (by kernel_rfl) (by kernel_rfl) (by kernel_rfl) (fun _ _ _ h => h) (by decide) (by kernel_rfl) (Or.inl ⟨by rfl, ?rny5r28x6_0⟩) (by assumption) ?rnr5r28x6_0
        case rny5r28x6_0 => (intro w hSw; (try dsimp only at hSw); go_simp; try with_reducible rfl)
        try simp only [Act.put, List.setIfInBounds_toArray, List.set_cons_zero, List.set_cons_succ, List.getElem_toArray, List.getElem_cons_zero, List.getElem_cons_succ]
        refine wpAnyN_take (i := 2) (v := ?rnv5r28x6_2) rfl (by kernel_rfl) (by kernel_rfl) (by kernel_rfl) (fun _ _ _ h => h) (by decide) (by kernel_rfl) (Or.inl ⟨by rfl, ?rny5r28x6_2⟩) (by assumption) ?rnr5r28x6_2
        case rny5r28x6_2 => (intro w hSw; (try dsimp only at hSw); go_simp; try with_reducible rfl)
        try simp only [Act.put, List.setIfInBounds_toArray, List.set_cons_zero, List.set_cons_succ, List.getElem_toArray, List.getElem_cons_zero, List.getElem_cons_succ]
        refine wpAnyN_take (i := 3) (v := ?rnv5r28x6_3) rfl (by kernel_rfl) (by kernel_rfl) (by kernel_rfl) (fun _ _ _ h => h) (by decide) (by kernel_rfl) (Or.inl ⟨by rfl, ?rny5r28x6_3⟩) (by assumption) ?rnr5r28x6_3
        case rny5r28x6_3 => (intro w hSw; (try dsimp only at hSw); go_simp; try with_reducible rfl)
        try simp only [Act.put, List.setIfInBounds_toArray, List.set_cons_zero, List.set_cons_succ, List.getElem_toArray, List.getElem_cons_zero, List.getElem_cons_succ]
        refine wpAnyN_take (i := 4) (v := ?rnv5r28x6_4) rfl (by kernel_rfl) (by kernel_rfl) (by kernel_rfl) (fun _ _ _ h => h) (by decide) (by kernel_rfl) (Or.inl ⟨by rfl, ?rny5r28x6_4⟩) (by assumption) ?rnr5r28x6_4
        case rny5r28x6_4 => (intro w hSw; (try dsimp only at hSw); go_simp; try with_reducible rfl)
        try simp only [Act.put, List.setIfInBounds_toArray, List.set_cons_zero, List.set_cons_succ, List.getElem_toArray, List.getElem_cons_zero, List.getElem_cons_succ]
        refine wpAnyN_take (i := 5) (v := ?rnv5r28x6_5) rfl (by kernel_rfl) (by kernel_rfl) (by kernel_rfl) (fun _ _ _ h => h) (by decide) (by kernel_rfl) (Or.inl ⟨by rfl, ?rny5r28x6_5⟩) (by assumption) ?rnr5r28x6_5
        case rny5r28x6_5 => (intro w hSw; (try dsimp only at hSw); go_simp; try with_reducible rfl)
        try simp only [Act.put, List.setIfInBounds_toArray, List.set_cons_zero, List.set_cons_succ, List.getElem_toArray, List.getElem_cons_zero, List.getElem_cons_succ]
        refine wpAnyN_one (i := 1) (by kernel_rfl) rfl (fun K hK => ?_)
        go_simp
        refine hall.mono ?_
        rintro e w3 ⟨A3, c3, k3, S3, rfl, R3, f3⟩
        have F3 := ((Frm.refl No wr).drew).thenN f3
        have k03 : w3.cell? ⟨gx, 0, none⟩ = some (.slice A n c) := (F3.blk HXB.out.1 (fun h => h)).cell 0
        have HR3 := Lib.hid (And.intro R3 F3)
        clear R3 F3 f3
        go_wp2_with fail
        refine hK.out _ _ (fun _ => ?_) (fun hHeld => ?_)
        · exact k03
        have hHeld := hHeld (by decide)
        clear hK K
        try simp only [Act.put, List.setIfInBounds_toArray, List.set_cons_zero, List.set_cons_succ, List.getElem_toArray, List.getElem_cons_zero, List.getElem_cons_succ]
        refine wpAnyN_one (i := 6) (by kernel_rfl) rfl (fun K hK => ?_)
        go_simp
        refine (same_ok w3 _ _ _ _ A3 A n c3 c S3 SS L HXB.out.2.2 hn2 HR3.out.1 (HXB.out.2.1.frmN HR3.out.2)).mono ?_
        rintro e w5 ⟨rfl, f5⟩
        have k05 : w5.cell? ⟨gx, 0, none⟩ = some (.slice A n c) := ((HR3.out.2.thenN f5).blk HXB.out.1 (fun h => h)).cell 0
        go_wp2_with fail
        refine hK.out _ _ (fun _ => ?_) (fun hHeld => ?_)
        · exact k05
        have hHeld := hHeld (by decide)
        clear hK K
        try simp only [Act.put, List.setIfInBounds_toArray, List.set_cons_zero, List.set_cons_succ, List.getElem_toArray, List.getElem_cons_zero, List.getElem_cons_succ]
        refine wpAnyN_take (i := 7) (v := ?rnv5r28x6_7) rfl (by kernel_rfl) (by kernel_rfl) (by kernel_rfl) (fun _ _ _ h => h) (by decide) (by kernel_rfl) (Or.inl ⟨by rfl, ?rny5r28x6_7⟩) (by assumption) ?rnr5r28x6_7
        case rny5r28x6_7 => (intro w hSw; (try dsimp only at hSw); go_simp; try with_reducible rfl)
        try simp only [Act.put, List.setIfInBounds_toArray, List.set_cons_zero, List.set_cons_succ, List.getElem_toArray, List.getElem_cons_zero, List.getElem_cons_succ]
        refine wpAnyN_done (by kernel_rfl) ?_ _
        have F5 := HH.out.2.2.2.2.thenN (HR3.out.2.thenN f5)
        have HZ : Zero (w5.alloc (.cells #[.bool false, .slice none 0 0, .int .i64 0, .int .i64 0] 48)) w5.heap.size := Blk.new _ _ _
        have F6 := F5.alloc (.cells #[.bool false, .slice none 0 0, .int .i64 0, .int .i64 0] 48)
        have HH6 := Lib.hid (And.intro HZ F6)
        clear HZ F6 F5 f5 k05 k0 k03 hHeld hall
        go_wp2_with fail
        refine (clear_nil _).mono ?_
        rintro e w6 ⟨rfl, rfl⟩
        go_wp2_with fail
        refine (take_six _ none 0 (ask_nil _ 0)).mono ?_
        rintro e w7 ⟨rfl, rfl⟩
        go_wp2_with fail
        refine (counts_nil _).mono ?_
        rintro e w8 ⟨rfl, rfl⟩
        go_wp2_with fail
        refine (alive_yes _).mono ?_
        rintro e w9 ⟨rfl, f9⟩
        have HZ9 : Zero w9 w5.heap.size := f9.blk HH6.out.1 (fun h => h)
        have F9 := HH6.out.2.thenN f9
        have HH9 := Lib.hid (And.intro HZ9 F9)
        clear HZ9 F9 f9
        go_wp2_with fail
        refine (send_nil _ none 0 0).mono ?_
        rintro e w10 ⟨rfl, rfl⟩
        go_wp2_with fail
        refine (send_zero _ _ none 0 0 HH9.out.1).mono ?_
        rintro e w10 ⟨rfl, rfl⟩
        go_wp2_with fail
        refine (lose_six _ _ 0 (ask_zero _ _ 0 HH9.out.1)).mono ?_
        rintro e w10 ⟨rfl, rfl⟩
        go_wp2_with fail
        refine (move_six _ none 0 0 (ask_nil _ 0)).mono ?_
        rintro e w10 ⟨rfl, rfl⟩
        go_wp2_with fail
        refine (spoil_six _ _ 0 0 0 (ask_zero _ _ 0 HH9.out.1)).mono ?_
        rintro e w10 ⟨rfl, rfl⟩
        go_wp2_with fail
        refine (len_nil _).mono ?_
        rintro e w10 ⟨rfl, rfl⟩
        go_wp2_with fail
        refine (len_zero _ _ HH9.out.1).mono ?_
        rintro e w10 ⟨rfl, rfl⟩
        go_wp2_with fail
        go_ret
        exact ⟨rfl, HH9.out.2⟩
end Go.Proofs.Ytbhkhabkkghapaa.A
