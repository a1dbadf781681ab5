/- TimersLive's walk. -/
import Derived.Test.YtighfhdkgfgcmaaR
namespace Go.Proofs.Ytighfhdkgfgcmaa.A
open Go.RowKit Go.Proofs.Ytighfhdkgfgcmaa.K Go.Proofs.Ytighfhdkgfgcmaa.N
set_option linter.unusedVariables false
set_option linter.unusedSimpArgs false

set_option maxRecDepth 100000 in
set_option maxHeartbeats 8000000 in
theorem live_walk (A : Option Addr) (len c : Nat) (ops : List TOp) (w : World) (hI : IsOps w A len ops) :
    Calls Try.prog 4 #[.slice A len c] w fun e w' => e = .returned (.bool true) ∧ Frm No w w' := by
  have hn9 : len ≤ 9223372036854775807 := hI.2.1
  obtain ⟨i0, hi, hz0, hz1, hz2⟩ := info_parts info3
  go_enter Try.func4, Try.ntmps4
  go_wp2_with fail
  refine (new_ok _).mono ?_
  rintro e w1 ⟨rfl, t1, f1⟩
  obtain ⟨gx, hgx⟩ : ∃ gx, w1.heap.size = gx := ⟨_, rfl⟩
  have hsz1 := f1.size
  have hx1 : IsE (w1.alloc (.cells #[.int .i64 0, .int .i64 0, .int .i64 0, .int .i64 0, .int .i64 0, .int .i64 0, .int .i64 0, .int .i64 0, .int .i64 0] 38)) gx (0 : Nat) [0, 0, 0, 0, 0, 0, 0, 0] := ⟨by rw [← hgx]; exact Blk.new _ _ _, rfl⟩
  have t2 := t1.alloc (.cells #[.int .i64 0, .int .i64 0, .int .i64 0, .int .i64 0, .int .i64 0, .int .i64 0, .int .i64 0, .int .i64 0, .int .i64 0] 38)
  have f2 := f1.alloc (.cells #[.int .i64 0, .int .i64 0, .int .i64 0, .int .i64 0, .int .i64 0, .int .i64 0, .int .i64 0, .int .i64 0, .int .i64 0] 38)
  have hgw : w.heap.size ≤ gx := by omega
  clear t1 f1 hsz1
  go_wp2_with fail
  try rw [hgx]
  generalize (w1.alloc (.cells #[.int .i64 0, .int .i64 0, .int .i64 0, .int .i64 0, .int .i64 0, .int .i64 0, .int .i64 0, .int .i64 0, .int .i64 0] 38)) = w2 at *
  go_loopw [5] (fun vi wr => LiveRel w w.heap.size gx vi wr) (fun vi _ => 300 - (intOf vi).toNat)
  case atStart => exact ⟨0, 0, _, _, rfl, by omega, by omega, t2, hx1, paired_zero _, f2⟩
  case round =>
    clear t2 f2 hx1 hgx
    obtain ⟨j, N, L, E, rfl, hj, hNj, ht, hx, hP, hF⟩ := hrel
    by_cases hlt : j < len
    · by_cases hlt3 : j < 300
      · have hlo : j < ops.length := by rw [hI.1]; exact hlt
        obtain ⟨ad, rfl, hbk, o0, o1, o2⟩ := hI.2.2 j _ (List.getElem?_eq_getElem hlo)
        obtain ⟨⟨kd, oi, on⟩, ho⟩ : ∃ o, ops[j] = o := ⟨_, rfl⟩
        rw [ho] at o0 o1 o2
        simp only at o0 o1 o2
        have tr : ∀ i v, w.cell? (ad.add i) = some v → wr.cell? (ad.add i) = some v := fun i v h => by
          rw [← h]; exact World.cell?_of_block (hF.block _ (by rw [block_add]; exact hbk) (fun h => h))
        have o0' := tr _ _ o0
        have o1' := tr _ _ o1
        have o2' := tr _ _ o2
        rw [add_spell _ _ _ (by omega)] at o1' o2'
        obtain ⟨go, hgo⟩ : ∃ go, wr.heap.size = go := ⟨_, rfl⟩
        have hO : Blk (wr.alloc (.cells #[.int .i64 kd, .int .i64 oi, .int .i64 on] 28)) go #[.int .i64 kd, .int .i64 oi, .int .i64 on] 28 := by rw [← hgo]; exact Blk.new _ _ _
        have ht1 := ht.alloc (.cells #[.int .i64 kd, .int .i64 oi, .int .i64 on] 28)
        have hx1 := hx.alloc (.cells #[.int .i64 kd, .int .i64 oi, .int .i64 on] 28)
        have hF1 := hF.alloc (.cells #[.int .i64 kd, .int .i64 oi, .int .i64 on] 28)
        clear o0 o1 o2 ho tr ht hx hF
        have HP := Lib.hid hP
        clear hP
        have hON : ¬ go = w.heap.size := Blk.ne hO ht1.1 (by decide)
        have hOX : ¬ go = gx := Blk.ne hO hx1.1 (by decide)
        have hgX : ¬ w.heap.size = gx := Blk.ne ht1.1 hx1.1 (by decide)
        have N0 : (0 : Int) ≤ (N : Int) := by omega
        have N1 : (N : Int) ≤ 1000000 := by omega
        have y0 := hO.cell 0
        simp only [List.getElem?_toArray] at y0
        go_upto_block 2 with fail
        go_cut [7] (fun v wx => v = .bool true ∧ LiveMid w w.heap.size gx go j kd oi on wx)
        case first =>
          clear o0' o1' o2'
          by_cases hk0 : kd = 0
          · have hk0' : (kd == 0) = true := by simpa using hk0
            have HK := Lib.hid hk0
            clear hk0
            have y1 := hO.cell 1
            have y2 := hO.cell 2
            simp only [List.getElem?_toArray] at y1 y2
            go_wp2_with fail
            go_region_held3 (fun w' => w'.cell? ⟨go, 1, none⟩ = some (.int .i64 oi) ∧ w'.cell? ⟨go, 2, none⟩ = some (.int .i64 on))
              (first | go_keep)
              (first
                | (go_at_call 7; refine (start_any _ w.heap.size L oi on ?_).mono ?_; exact ht1; rintro e w3 ⟨rfl, t3, f3⟩; have hO3 := f3.blk (by exact hO) hON; have x3 := IsE.frm (by exact hx1) f3 (fun h => hgX h.symm); have y1' := hO3.cell 1; have y2' := hO3.cell 2; simp only [List.getElem?_toArray] at y1' y2')
                | (go_at_call 12; refine (rstart_any _ gx N E oi on ?_ N0 N1).mono ?_; exact x3; rintro e w4 ⟨rfl, x4, f4⟩; have hO4 := f4.blk (by exact hO3) hOX; have t4 := IsT.frm (by exact t3) f4 hgX; have y1'' := hO4.cell 1; have y2'' := hO4.cell 2; simp only [List.getElem?_toArray] at y1'' y2''))
            go_wp2_with fail
            go_meet
            exact ⟨by simp, N, _, _, by omega, t4, x4, paired_start HP.out _ _, hO4, (Frm.thenG (S := No) hF1.drew f3 (.inr (Nat.le_refl _))).thenG f4 (.inr hgw)⟩
          · have hk0' : (kd == 0) = false := by simpa using hk0
            clear hk0
            by_cases hk1 : kd = 1
            · have hk1' : (kd == 1) = true := by simpa using hk1
              have HK := Lib.hid hk1
              clear hk1
              have y1 := hO.cell 1
              simp only [List.getElem?_toArray] at y1
              go_wp2_with fail
              go_region_held3 (fun w' => w'.cell? ⟨go, 1, none⟩ = some (.int .i64 oi))
                (first | go_keep)
                (first
                  | (go_at_call 8; refine (stop_any _ w.heap.size L oi ?_).mono ?_; exact ht1; rintro e w3 ⟨rfl, t3, f3⟩; have hO3 := f3.blk (by exact hO) hON; have x3 := IsE.frm (by exact hx1) f3 (fun h => hgX h.symm); have y1' := hO3.cell 1; simp only [List.getElem?_toArray] at y1')
                  | (go_at_call 13; refine (rstop_any _ gx N E oi ?_).mono ?_; exact x3; rintro e w4 ⟨rfl, x4, f4⟩; have hO4 := f4.blk (by exact hO3) hOX; have t4 := IsT.frm (by exact t3) f4 hgX; have y1'' := hO4.cell 1; simp only [List.getElem?_toArray] at y1''))
              go_wp2_with fail
              go_meet
              exact ⟨by simp, N, _, _, by omega, t4, x4, paired_stop HP.out _, hO4, (Frm.thenG (S := No) hF1.drew f3 (.inr (Nat.le_refl _))).thenG f4 (.inr hgw)⟩
            · have hk1' : (kd == 1) = false := by simpa using hk1
              clear hk1
              by_cases hk2 : kd = 2
              · have hk2' : (kd == 2) = true := by simpa using hk2
                have HK := Lib.hid hk2
                clear hk2
                obtain ⟨p1, p2⟩ := paired_tick N0 HP.out
                have P1 := Lib.hid p1
                have P2 := Lib.hid p2
                clear p1 p2
                go_wp2_with fail
                refine (tick_ok _ w.heap.size L ht1 (fun q => (HP.out.1.2 q).2)).mono ?_
                rintro e w3 ⟨v3, rfl, ov3, f3, t3⟩
                have hO3 := f3.blk hO hON
                have x3 := hx1.frm f3 (fun h => hgX h.symm)
                go_wp2_with fail
                refine (rtick_ok _ gx N E x3 N0 N1).mono ?_
                rintro e w4 ⟨v4, rfl, ov4, f4, x4⟩
                have hO4 := f4.blk hO3 hOX
                have t4 := t3.frm f4 hgX
                rw [P2.out] at ov4
                have r3 := rd_grow (w0 := w) ov3 f4 (fun k cs hb e => Blk.ne (e ▸ hb) x3.1 (by decide) rfl)
                have r4 := rd_of ov4
                have f14 := (hF1.thenG f3 (.inr (Nat.le_refl _))).thenG f4 (.inr hgw)
                have hl := tickO_len L
                go_wp2_with fail
                refine (same_yes _ _ _ _ r3 r4 (by omega)).mono ?_
                rintro e w5 ⟨rfl, f5⟩
                go_wp2_with fail
                go_meet
                exact ⟨rfl, N + 1, _, _, by omega, t4.frm f5 (fun h => h), by have := x4.frm f5 (fun h => h); simpa using this, by have := P1.out; simpa using this, f5.blk hO4 (fun h => h), f14.thenN f5⟩
              · have hk2' : (kd == 2) = false := by simpa using hk2
                clear hk2
                by_cases hk3 : kd = 3
                · have hk3' : (kd == 3) = true := by simpa using hk3
                  have HK := Lib.hid hk3
                  clear hk3
                  go_wp2_with fail
                  refine (clear_ok _ w.heap.size true L ht1).mono ?_
                  rintro e w3 ⟨rfl, t3, f3⟩
                  have hO3 := f3.blk hO hON
                  have x3 := hx1.frm f3 (fun h => hgX h.symm)
                  have f13 := hF1.thenG f3 (.inr (Nat.le_refl _))
                  obtain ⟨q0, q1, q2, q3, q4, q5, q6, q7, rfl⟩ := eight HP.out.2.1
                  have hb := x3.1
                  have c1 : w3.cell? ⟨gx, 1, none⟩ = some (.int .i64 q0) := hb.cell 1
                  have c2 : w3.cell? ⟨gx, 2, none⟩ = some (.int .i64 q1) := hb.cell 2
                  have c3 : w3.cell? ⟨gx, 3, none⟩ = some (.int .i64 q2) := hb.cell 3
                  have c4 : w3.cell? ⟨gx, 4, none⟩ = some (.int .i64 q3) := hb.cell 4
                  have c5 : w3.cell? ⟨gx, 5, none⟩ = some (.int .i64 q4) := hb.cell 5
                  have c6 : w3.cell? ⟨gx, 6, none⟩ = some (.int .i64 q5) := hb.cell 6
                  have c7 : w3.cell? ⟨gx, 7, none⟩ = some (.int .i64 q6) := hb.cell 7
                  have c8 : w3.cell? ⟨gx, 8, none⟩ = some (.int .i64 q7) := hb.cell 8
                  have u1 := hb.free 1
                  have u2 := hb.free 2
                  have u3 := hb.free 3
                  have u4 := hb.free 4
                  have u5 := hb.free 5
                  have u6 := hb.free 6
                  have u7 := hb.free 7
                  have u8 := hb.free 8
                  have fin := ((((((((hb.set 1 (.int .i64 0)).set 2 (.int .i64 0)).set 3 (.int .i64 0)).set 4 (.int .i64 0)).set 5 (.int .i64 0)).set 6 (.int .i64 0)).set 7 (.int .i64 0)).set 8 (.int .i64 0))
                  have hz : (((((((((refA N [q0, q1, q2, q3, q4, q5, q6, q7]).setIfInBounds 1 (.int .i64 0)).setIfInBounds 2 (.int .i64 0)).setIfInBounds 3 (.int .i64 0)).setIfInBounds 4 (.int .i64 0)).setIfInBounds 5 (.int .i64 0)).setIfInBounds 6 (.int .i64 0)).setIfInBounds 7 (.int .i64 0)).setIfInBounds 8 (.int .i64 0)) = refA N [0, 0, 0, 0, 0, 0, 0, 0] := by simp [refA]
                  rw [hz] at fin
                  have fr := ((((((((Frm.refl (fun x => x = gx) w3).self 1 (.int .i64 0)).self 2 (.int .i64 0)).self 3 (.int .i64 0)).self 4 (.int .i64 0)).self 5 (.int .i64 0)).self 6 (.int .i64 0)).self 7 (.int .i64 0)).self 8 (.int .i64 0)
                  have FIN := Lib.hid fin
                  have FR := Lib.hid fr
                  have X3 := Lib.hid x3
                  clear fin hb hz fr x3 hx1
                  go_wp2_with fail
                  go_meet
                  exact ⟨rfl, N, _, _, by omega, t3.frm FR.out hgX, ⟨FIN.out, rfl⟩, paired_zero _, FR.out.blk hO3 hOX, f13.thenG FR.out (.inr hgw)⟩
                · have hk3' : (kd == 3) = false := by simpa using hk3
                  clear hk3
                  go_wp2_with fail
                  go_meet
                  exact ⟨rfl, N, L, E, by omega, ht1, hx1, HP.out, hO, hF1⟩
        case rest =>
          clear ht1 hx1 hF1 hO HP y0 N0 N1 hON hOX hgX o0' o1' o2'
          obtain ⟨rfl, N2, L2, E2, hN2, t2, x2, p2, hO2, hF2⟩ := hcut
          have hON : ¬ go = w.heap.size := Blk.ne hO2 t2.1 (by decide)
          have hOX : ¬ go = gx := Blk.ne hO2 x2.1 (by decide)
          have hgX : ¬ w.heap.size = gx := Blk.ne t2.1 x2.1 (by decide)
          have N0 : (0 : Int) ≤ (N2 : Int) := by omega
          have N1 : (N2 : Int) ≤ 1000000 := by omega
          have hle := fun q => paired_left N0 p2 q
          have hE := paired_end p2 N0 N1
          have HLE := Lib.hid hle
          have HE := Lib.hid hE
          have HP := Lib.hid p2
          clear hle hE p2
          obtain ⟨wo, rfl⟩ : ∃ wo, wo = wr := ⟨_, rfl⟩
          go_wp2_with fail
          go_loopw [7, 8, 9] (fun vf vr vk wx => LiveRun w wc w.heap.size gx go N2 L2 E2 kd oi on vf vr vk wx) (fun _ _ vk _ => 8 - (intOf vk).toNat)
          case atStart => exact ⟨0, rfl, rfl, by omega, World.ownsRow_nil _ _ _ _, t2, x2, hO2, Frm.refl _ _⟩
          case round =>
            clear t2 x2 hO2
            obtain ⟨k, rfl, rfl, hk, ho, t3, x3, hO3, hF3⟩ := hrel
            have hle := runTo_le (fun q => L2.getD q 0) k
            by_cases hk8 : k < 8
            · have hsuc := runTo_succ (fun q => L2.getD q 0) k
              obtain ⟨z, hz⟩ : ∃ z, L2.getD k 0 = z := ⟨_, rfl⟩
              have hz2 : leftN L2 (k : Int) = z := by
                unfold leftN; rw [if_pos ⟨by omega, by omega⟩]; exact hz
              simp only [hz] at hsuc
              have dz : (z == z) = true := by simp
              generalize runTo (fun q => L2.getD q 0) k = R0 at *
              have HZ := Lib.hid hz2
              have HS := Lib.hid hsuc
              clear hz2 hsuc hz
              by_cases hpos : 0 < z
              · have hs := HS.out
                rw [if_pos hpos] at hs
                have HS2 := Lib.hid hs
                clear hs
                go_wp2_with fail
                refine (left_any _ w.heap.size L2 k t3).mono ?_
                rintro e w4 ⟨rfl, rfl⟩
                rw [HZ.out]
                go_wp2_with fail
                refine (rleft_any _ gx N2 E2 k x3 N0 N1 HE.out).mono ?_
                rintro e w4 ⟨rfl, f4⟩
                rw [HLE.out, HZ.out]
                have x4 := x3.frm f4 (fun h => h)
                go_wp2_with fail
                refine (rleft_any _ gx N2 E2 k x4 N0 N1 HE.out).mono ?_
                rintro e w5 ⟨rfl, f5⟩
                rw [HLE.out, HZ.out]
                have t5 := (t3.frm f4 (fun h => h)).frm f5 (fun h => h)
                have x5 := x4.frm f5 (fun h => h)
                have hO5 := f5.blk (f4.blk hO3 (fun h => h)) (fun h => h)
                have hF5 := (hF3.thenN f4).thenN f5
                have hr5 := own_frm (own_frm ho f4 (fun _ _ _ h => h)) f5 (fun _ _ _ h => h)
                have hsz5 := hF5.size
                clear t3 x3 hO3 hF3 ho f4 f5 x4
                go_wp2_with (at_builtin; go_must (refine wpList_append_lies _ rfl _ _ 30 rfl wc.heap.size 3 i0 _ 1 8 Try.underlying30 hi hz0 hz1 hz2 rfl (by omega) _ R0.length ((ints R0).map (Value.int .i64)) rfl (hr5.alloc _) ⟨w5.heap.size, 0, none⟩ 1 1 [.int .i64 k] rfl rfl (World.news_of_block (cs := #[.int .i64 k]) (t := 3) (fr := (0, 0)) (heap_alloc_new w5 _)) (by simp [Value.oneCell']) (by omega) (by unfold maxLen; omega) (by omega) (by simp; omega) (w5.heap.size + 1) (by simp) ?_); intro gg cap w6 hown6 hgrow6 hat6 hlt6)
                go_roundw
                case rel =>
                  obtain ⟨r0, r1, r2, r3, r4⟩ := runlive_push t5 x5 hO5 hr5 hF5 hown6 hgrow6
                  exact ⟨k + 1, rfl, by go_num, by omega, by rw [HS2.out]; simpa using r3, r0, r1, r2, r4⟩
                case measure => simp [intOf]; omega
              · have hs := HS.out
                rw [if_neg hpos] at hs
                have HS2 := Lib.hid hs
                clear hs
                go_wp2_with fail
                refine (left_any _ w.heap.size L2 k t3).mono ?_
                rintro e w4 ⟨rfl, rfl⟩
                rw [HZ.out]
                go_wp2_with fail
                refine (rleft_any _ gx N2 E2 k x3 N0 N1 HE.out).mono ?_
                rintro e w4 ⟨rfl, f4⟩
                rw [HLE.out, HZ.out]
                have x4 := x3.frm f4 (fun h => h)
                go_wp2_with fail
                refine (rleft_any _ gx N2 E2 k x4 N0 N1 HE.out).mono ?_
                rintro e w5 ⟨rfl, f5⟩
                rw [HLE.out, HZ.out]
                have t5 := (t3.frm f4 (fun h => h)).frm f5 (fun h => h)
                have x5 := x4.frm f5 (fun h => h)
                have hO5 := f5.blk (f4.blk hO3 (fun h => h)) (fun h => h)
                have hF5 := (hF3.thenN f4).thenN f5
                have hr5 := own_frm (own_frm ho f4 (fun _ _ _ h => h)) f5 (fun _ _ _ h => h)
                clear t3 x3 hO3 hF3 ho f4 f5 x4
                go_wp2_with fail
                go_roundw
                case rel =>
                  exact ⟨k + 1, rfl, by go_num, by omega, by rw [HS2.out]; exact hr5, t5, x5, hO5, hF5⟩
                case measure => simp [intOf]; omega
            · have hk88 : k = 8 := by omega
              subst hk88
              have hrd : Rd wr u8 (runL L2) := rd_of (B := wc.heap.size) (l := runL L2) (by rw [ints_length]; exact ho)
              have hrl : (runL L2).length ≤ 8 := hle
              have y1 := hO3.cell 1
              simp only [List.getElem?_toArray] at y1
              obtain ⟨ws, rfl⟩ : ∃ ws, ws = wr := ⟨_, rfl⟩
              have dz : (leftN L2 oi != leftN L2 oi) = false := by simp
              clear ho hle
              go_wp2_with fail
              go_region_held3 (fun w' => w'.cell? ⟨go, 1, none⟩ = some (.int .i64 oi))
                (first | go_keep)
                (first
                  | (go_at_call 18; refine (running_ok _ w.heap.size L2 ?_).mono ?_; exact t3; rintro e w4 ⟨v4, rfl, ov4, f4, -⟩; have t4 := IsT.frm (by exact t3) f4 (fun h => h); have x4 := IsE.frm (by exact x3) f4 (fun h => h); have hO4 := f4.blk (by exact hO3) (fun h => h); have r4 := rd_of ov4; have q4 := Rd.frm (by exact hrd) f4; have y1' := hO4.cell 1; simp only [List.getElem?_toArray] at y1')
                  | (go_at_call 14; refine (same_yes _ _ _ (runL L2) ?_ ?_ ?_).mono ?_; exact r4; exact q4; omega; rintro e w5 ⟨rfl, f5⟩; have t5 := IsT.frm (by exact t4) f5 (fun h => h); have x5 := IsE.frm (by exact x4) f5 (fun h => h); have hO5 := f5.blk (by exact hO4) (fun h => h); have y1'' := hO5.cell 1; simp only [List.getElem?_toArray] at y1'')
                  | (go_at_call 10; refine (left_any _ w.heap.size L2 oi ?_).mono ?_; exact t5; rintro e w6 ⟨rfl, rfl⟩)
                  | (go_at_call 17; refine (rleft_any _ gx N2 E2 oi ?_ N0 N1 HE.out).mono ?_; exact x5; rintro e w7 ⟨rfl, f7⟩; rw [HLE.out]; have hO7 := f7.blk (by exact hO5) (fun h => h); have y1t := hO7.cell 1; simp only [List.getElem?_toArray] at y1t))
              have F9 := ((((hF2.thenN hF3).drew.thenN f4).thenN f5).thenN f7)
              go_wp2_with fail
              go_roundw
              case rel => exact ⟨j + 1, N2, L2, E2, by go_num, by omega, hN2, t5.frm f7 (fun h => h), x5.frm f7 (fun h => h), HP.out, F9⟩
              case measure => simp [intOf]; omega
      · clear ht hx
        go_wp2_with fail
        refine (clear_nil _).mono ?_
        rintro e w3 ⟨rfl, rfl⟩
        have z3 : IsT (wr.alloc (.cells #[.bool false, .int .i64 0, .int .i64 0, .int .i64 0, .int .i64 0, .int .i64 0, .int .i64 0, .int .i64 0, .int .i64 0] 41)) wr.heap.size false [0, 0, 0, 0, 0, 0, 0, 0] := ⟨Blk.new _ _ _, rfl⟩
        have F3 := hF.alloc (.cells #[.bool false, .int .i64 0, .int .i64 0, .int .i64 0, .int .i64 0, .int .i64 0, .int .i64 0, .int .i64 0, .int .i64 0] 41)
        clear hF hP
        go_wp2_with fail
        generalize (wr.alloc (.cells #[.bool false, .int .i64 0, .int .i64 0, .int .i64 0, .int .i64 0, .int .i64 0, .int .i64 0, .int .i64 0, .int .i64 0] 41)) = w3 at *
        generalize wr.heap.size = gz at *
        refine (alive_yes _).mono ?_
        rintro e w4 ⟨rfl, f4⟩
        have z4 := z3.frm f4 (fun h => h)
        have F4 := F3.thenN f4
        go_wp2_with fail
        refine (start_nil _ _ _).mono ?_
        rintro e w5 ⟨rfl, rfl⟩
        go_wp2_with fail
        refine (start_zero _ gz _ _ _ z4).mono ?_
        rintro e w5 ⟨rfl, rfl⟩
        go_wp2_with fail
        refine (stop_nil _ _).mono ?_
        rintro e w5 ⟨rfl, rfl⟩
        go_wp2_with fail
        refine (stop_zero _ gz _ _ z4).mono ?_
        rintro e w5 ⟨rfl, rfl⟩
        go_wp2_with fail
        refine (left_nil _ _).mono ?_
        rintro e w5 ⟨rfl, rfl⟩
        go_wp2_with fail
        refine (left_zero _ gz _ _ z4).mono ?_
        rintro e w5 ⟨rfl, rfl⟩
        go_wp2_with fail
        refine (tick_none _ _ (running_nil _)).mono ?_
        rintro e w5 ⟨v5, rfl, o5, f5, -⟩
        obtain ⟨A5, c5, rfl, -⟩ := handed_cells (l := []) (by exact o5)
        have z5 := z4.frm f5 (fun h => h)
        have F5 := F4.thenN f5
        clear z4 F4 f5 o5 z3 F3 f4
        go_wp2_with fail
        refine (tick_none _ _ (running_zero _ gz _ z5)).mono ?_
        rintro e w6 ⟨v6, rfl, o6, f6, -⟩
        obtain ⟨A6, c6, rfl, -⟩ := handed_cells (l := []) (by exact o6)
        have F6 := F5.thenN f6
        clear F5 f6 o6
        go_wp2_with fail
        refine (running_nil _).mono ?_
        rintro e w7 ⟨v7, rfl, o7, f7, -⟩
        obtain ⟨A7, c7, rfl, -⟩ := handed_cells (l := []) (by exact o7)
        have F7 := F6.thenN f7
        clear F6 f7 o7
        go_wp2_with fail
        go_ret
        exact ⟨rfl, F7⟩
    · clear ht hx
      go_wp2_with fail
      refine (clear_nil _).mono ?_
      rintro e w3 ⟨rfl, rfl⟩
      have z3 : IsT (wr.alloc (.cells #[.bool false, .int .i64 0, .int .i64 0, .int .i64 0, .int .i64 0, .int .i64 0, .int .i64 0, .int .i64 0, .int .i64 0] 41)) wr.heap.size false [0, 0, 0, 0, 0, 0, 0, 0] := ⟨Blk.new _ _ _, rfl⟩
      have F3 := hF.alloc (.cells #[.bool false, .int .i64 0, .int .i64 0, .int .i64 0, .int .i64 0, .int .i64 0, .int .i64 0, .int .i64 0, .int .i64 0] 41)
      clear hF hP
      go_wp2_with fail
      generalize (wr.alloc (.cells #[.bool false, .int .i64 0, .int .i64 0, .int .i64 0, .int .i64 0, .int .i64 0, .int .i64 0, .int .i64 0, .int .i64 0] 41)) = w3 at *
      generalize wr.heap.size = gz at *
      refine (alive_yes _).mono ?_
      rintro e w4 ⟨rfl, f4⟩
      have z4 := z3.frm f4 (fun h => h)
      have F4 := F3.thenN f4
      go_wp2_with fail
      refine (start_nil _ _ _).mono ?_
      rintro e w5 ⟨rfl, rfl⟩
      go_wp2_with fail
      refine (start_zero _ gz _ _ _ z4).mono ?_
      rintro e w5 ⟨rfl, rfl⟩
      go_wp2_with fail
      refine (stop_nil _ _).mono ?_
      rintro e w5 ⟨rfl, rfl⟩
      go_wp2_with fail
      refine (stop_zero _ gz _ _ z4).mono ?_
      rintro e w5 ⟨rfl, rfl⟩
      go_wp2_with fail
      refine (left_nil _ _).mono ?_
      rintro e w5 ⟨rfl, rfl⟩
      go_wp2_with fail
      refine (left_zero _ gz _ _ z4).mono ?_
      rintro e w5 ⟨rfl, rfl⟩
      go_wp2_with fail
      refine (tick_none _ _ (running_nil _)).mono ?_
      rintro e w5 ⟨v5, rfl, o5, f5, -⟩
      obtain ⟨A5, c5, rfl, -⟩ := handed_cells (l := []) (by exact o5)
      have z5 := z4.frm f5 (fun h => h)
      have F5 := F4.thenN f5
      clear z4 F4 f5 o5 z3 F3 f4
      go_wp2_with fail
      refine (tick_none _ _ (running_zero _ gz _ z5)).mono ?_
      rintro e w6 ⟨v6, rfl, o6, f6, -⟩
      obtain ⟨A6, c6, rfl, -⟩ := handed_cells (l := []) (by exact o6)
      have F6 := F5.thenN f6
      clear F5 f6 o6
      go_wp2_with fail
      refine (running_nil _).mono ?_
      rintro e w7 ⟨v7, rfl, o7, f7, -⟩
      obtain ⟨A7, c7, rfl, -⟩ := handed_cells (l := []) (by exact o7)
      have F7 := F6.thenN f7
      clear F6 f7 o7
      go_wp2_with fail
      go_ret
      exact ⟨rfl, F7⟩
end Go.Proofs.Ytighfhdkgfgcmaa.A
