/- TxwinLives' walk. -/
import Derived.Test.YthefmklblfjfeaaJ
import Derived.Deep.RegionHeld3
import Derived.Deep.DeepCutAuto
import Derived.Deep.CutBlock
namespace Go.Proofs.Ythefmklblfjfeaa.A
open Go.RowKit Go.Proofs.Ythefmklblfjfeaa.K Go.Proofs.Ythefmklblfjfeaa.N
set_option linter.unusedVariables false
set_option linter.unusedSimpArgs false

set_option maxRecDepth 100000 in
set_option maxHeartbeats 8000000 in
theorem lives_core (b z ask : Int) (A : Option Addr) (len c : Nat) (ops : List TOp) (w : World) (hmay : mayW b z = true) (hask : (Lit.int .i64 ask).wf = true) (hI : IsOps w A len ops) :
    Calls Try.prog 5 #[.int .i64 b, .int .i64 z, .slice A len c, .int .i64 ask] w fun e w' => e = .returned (.bool true) ∧ Frm No w w' := by
  have hm : (1 ≤ b ∧ b ≤ 16) ∧ 1 ≤ z ∧ 2 * z ≤ sz b := of_decide_eq_true hmay
  obtain ⟨⟨hb1, hb2⟩, hz1, hz2⟩ := hm
  have hS := sz_range ⟨hb1, hb2⟩
  have hn9 : len ≤ 9223372036854775807 := hI.2.1
  obtain ⟨S, hSe⟩ : ∃ S, sz b = S := ⟨_, rfl⟩
  rw [hSe] at hS hz2
  have htd : S.tdiv 2 = S / 2 := Int.tdiv_eq_ediv_of_nonneg (by omega)
  have d1 : (S == 0) = false := beq_eq_false_iff_ne.2 (by omega)
  have d3 : ¬ S / 2 < z := by omega
  clear hz2
  go_enter Try.func5, Try.ntmps5
  go_wp2_with fail
  refine (new_ok b z _ hmay).mono ?_
  rintro e w1 ⟨g, mb, rfl, hg, hmb, t1, F1⟩
  clear hmay
  go_wp2_with fail
  refine (rsize_is b S _ hSe).mono ?_
  rintro e w2 ⟨rfl, rfl⟩
  obtain ⟨gx, hgx⟩ : ∃ gx, w1.heap.size = gx := ⟨_, rfl⟩
  have hsz1 := F1.size
  have hx1 : IsX (w1.alloc (.cells #[.int .i64 b, .int .i64 z, .slice none 0 0] 44)) w.heap.size gx b z [] := ⟨⟨hb1, hb2⟩, by simp, _, by rw [← hgx]; exact Blk.new _ _ _, World.ownsRow_nil _ _ _ _⟩
  have t2 := t1.alloc (.cells #[.int .i64 b, .int .i64 z, .slice none 0 0] 44)
  have F2 := F1.alloc (.cells #[.int .i64 b, .int .i64 z, .slice none 0 0] 44)
  have hgw : w.heap.size ≤ gx := by omega
  clear t1 F1 hsz1
  have HSE := Lib.hid hSe
  have hHS := Lib.hid hS
  clear hSe
  go_wp2_with fail
  try rw [hgx]
  generalize (w1.alloc (.cells #[.int .i64 b, .int .i64 z, .slice none 0 0] 44)) = w2 at *
  clear htd d1 d3 hS
  go_loopw [13] (fun vi wr => LvO w w.heap.size g gx b z vi wr) (fun vi _ => 60 - (intOf vi).toNat)
  case atStart => exact ⟨0, rfl, by omega, mb, 0, [], by omega, by simp, hmb, t2, hx1, F2⟩
  case round =>
    clear t2 F2 hx1 hgx
    obtain ⟨i, rfl, hi60, mb, n, D, hn, hD, hmb, t, x, F⟩ := hrel
    by_cases hlt : i < len
    · by_cases hlt3 : i < 60
      · have hlo : i < ops.length := by rw [hI.1]; exact hlt
        obtain ⟨ad, rfl, hbk, o0, o1, o2⟩ := hI.2.2 i _ (List.getElem?_eq_getElem hlo)
        obtain ⟨⟨kd, on, ot⟩, ho⟩ : ∃ o, ops[i] = o := ⟨_, rfl⟩
        rw [ho] at o0 o1 o2
        simp only at o0 o1 o2
        have tr : ∀ i v, w.cell? (ad.add i) = some v → wr.cell? (ad.add i) = some v := fun i v h => by
          rw [← h]; exact World.cell?_of_block (F.block _ (by rw [block_add]; exact hbk) (fun h => h))
        have o0' := tr _ _ o0
        have o1' := tr _ _ o1
        have o2' := tr _ _ o2
        rw [add_spell _ _ _ (by omega)] at o1' o2'
        obtain ⟨go, hgo⟩ : ∃ go, wr.heap.size = go := ⟨_, rfl⟩
        have hO : Blk (wr.alloc (.cells #[.int .i64 kd, .int .i64 on, .int .i64 ot] 46)) go #[.int .i64 kd, .int .i64 on, .int .i64 ot] 46 := by rw [← hgo]; exact Blk.new _ _ _
        have t1 := t.alloc (.cells #[.int .i64 kd, .int .i64 on, .int .i64 ot] 46)
        have x1 := x.alloc (.cells #[.int .i64 kd, .int .i64 on, .int .i64 ot] 46)
        have F1 := F.alloc (.cells #[.int .i64 kd, .int .i64 on, .int .i64 ot] 46)
        have hgs : w.heap.size ≤ go := by have := F.size; omega
        clear o0 o1 o2 ho tr t x F
        have i0 : (0 : Int) ≤ (i : Int) := Int.natCast_nonneg _
        have i1 : (i : Int) < (len : Int) := by omega
        have i60 : (i : Int) < 60 := by omega
        obtain ⟨wo, rfl⟩ : ∃ wo, wo = wr := ⟨_, rfl⟩
        go_wp2_with fail
        go_loopw [15] (fun vk wr => LvI w w.heap.size g gx go b z #[.int .i64 kd, .int .i64 on, .int .i64 ot] i vk wr) (fun vk _ => 40 - (intOf vk).toNat)
        case atStart => exact ⟨0, rfl, by omega, by first | exact hO | (rw [hgo] at *; exact hO), mb, n, D, by omega, by omega, hmb, t1, x1, F1⟩
        case round =>
          clear t1 F1 x1 hO o0' o1' o2' hn hD hmb
          obtain ⟨k, rfl, hk40, hO, mb, n, D, hn, hD, hmb, t, x, F⟩ := hrel
          have y0 := hO.cell 0
          have y2 := hO.cell 2
          simp only [List.getElem?_toArray] at y0 y2
          have k0 : (0 : Int) ≤ (k : Int) := Int.natCast_nonneg _
          by_cases hkt : (k : Int) ≤ ot
          · by_cases hk4 : k < 40
            · have k4 : (k : Int) < 40 := by omega
              have hgne : g ≠ gx := by
                obtain ⟨cs, hb⟩ := x.blk
                exact Blk.ne t.2.2.2.2.1 hb (by decide)
              go_upto_block 4 with fail
              go_cut [16] (fun v wx => LvM w w.heap.size g gx go b z #[.int .i64 kd, .int .i64 on, .int .i64 ot] (40 * i + k + 1) v wx)
              case first =>
                have hB := Lib.hid hgs
                by_cases hk0 : kd = 0
                · have hk0' : (kd == 0) = true := by simpa using hk0
                  have HK := Lib.hid hk0
                  clear hk0
                  cases hful : full z D with
                  | true =>
                    go_wp2_with fail
                    refine (next_D_full _ g b z mb n D t hful).mono ?_
                    rintro e w3 ⟨rfl, f3⟩
                    have t3 := t.frm f3 (fun h => h) (fun h => h)
                    have x3 := x.frmN f3
                    have hO3 := f3.blk hO (fun h => h)
                    have F3 := F.thenN f3
                    clear t x hO F f3
                    go_wp2_with fail
                    refine (xnext_full _ w.heap.size gx b z D x3 hful).mono ?_
                    rintro e w4 ⟨rfl, f4⟩
                    have t4 := t3.frm f4 (fun h => h) (fun h => h)
                    have x4 := x3.frmN f4
                    have hO4 := f4.blk hO3 (fun h => h)
                    have F4 := F3.thenN f4
                    clear t3 x3 hO3 F3 f4
                    go_wp2_with fail
                    go_meet
                    exact ⟨rfl, hO4, mb, n, D, by omega, by omega, hmb, t4, x4, F4⟩
                  | false =>
                    obtain ⟨v, hv⟩ : ∃ v, nm b D.length = v := ⟨_, rfl⟩
                    have HV := Lib.hid hv
                    clear hv
                    go_wp2_with fail
                    refine (next_D_is _ g b z mb n D _ v t hful HV.out rfl).mono ?_
                    rintro e w3 ⟨rfl, t3, f3⟩
                    have x3 := x.g1 t f3
                    have hO3 := Blk.g1 hO t f3
                    have F3 := F.thenG f3 (.inr hg)
                    clear x hO F f3 t
                    have xn := xnext _ w.heap.size gx b z D x3 hgw hful (by omega)
                    rw [HV.out] at xn
                    go_wp2_with fail
                    refine xn.mono ?_
                    rintro e w4 ⟨rfl, x4, f4⟩
                    have t4 := t3.xs f4 hgne x3.blk
                    have hO4 := Blk.xs hO3 f4 x3.blk
                    have F4 := Frm.thenX F3 f4 (Nat.le_refl _) hgw
                    have e1 : (v == v) = true := by simp
                    clear t3 x3 hO3 F3 f4 xn
                    go_wp2_with fail
                    go_meet
                    exact ⟨rfl, hO4, mb, n, _, by omega, by simp; omega, hmb, t4, x4, F4⟩
                · have hk0' : (kd == 0) = false := by simpa using hk0
                  clear hk0
                  by_cases hk1 : kd = 1
                  · have hk1' : (kd == 1) = true := by simpa using hk1
                    have HK := Lib.hid hk1
                    clear hk1
                    have y1 := hO.cell 1
                    simp only [List.getElem?_toArray] at y1
                    by_cases hq : 0 ≤ on ∧ on < sz b
                    · cases hop : opD b D on with
                      | false =>
                        have hno : ∀ i, fst D ≤ i → i < D.length → D.getD i false = false → on ≠ nm b i := fun i h1 h2 h3 e => by
                          have := (opD_iff t on).2 ⟨i, h1, h2, h3, e⟩
                          rw [hop] at this; cases this
                        have HQ := Lib.hid hq
                        have HN := Lib.hid hno
                        clear hq hno
                        go_wp2_with fail
                        go_region_held3 (fun w' => w'.cell? ⟨go, 1, none⟩ = some (.int .i64 on))
                          (first | go_keep)
                          (first
                            | (go_at_call 11; refine (ack_D_old _ g b z mb n D on ?_ HQ.out hop).mono ?_; exact t; rintro e w3 ⟨rfl, f3⟩; have hO3 := f3.blk (by exact hO) (fun h => h); have x3 := IsX.frmN (by exact x) f3; have t3 := IsW.frm (by exact t) f3 (fun h => h) (fun h => h); have y1' := hO3.cell 1; simp only [List.getElem?_toArray] at y1')
                            | (go_at_call 15; refine (xack_old _ w.heap.size gx b z D on ?_ HQ.out HN.out).mono ?_; exact x3; rintro e w4 ⟨rfl, rfl⟩))
                        go_wp2_with fail
                        go_meet
                        exact ⟨by simp, hO3, mb, n, D, by omega, by omega, hmb, t3, x3, Frm.thenN (S := No) F.drew f3⟩
                      | true =>
                        obtain ⟨i0, h1, h2, h3, h4⟩ := (opD_iff t on).1 hop
                        have hlw := t.lt
                        have h4' := h4.symm
                        have H := Lib.hid (And.intro h1 (And.intro h2 (And.intro h3 (And.intro hlw h4'))))
                        have hn6 : n < 1000000 := by omega
                        clear h1 h2 h3 h4 h4' hlw hq hop
                        go_wp2_with fail
                        go_region_held3 (fun w' => w'.cell? ⟨go, 1, none⟩ = some (.int .i64 on))
                          (first | go_keep)
                          (first
                            | (go_at_call 11; refine (ack_D_is _ g b z mb n D _ on (by exact t) hn6 i0 H.out.1 H.out.2.1 H.out.2.2.1 H.out.2.2.2.2 rfl).mono ?_; rintro e w3 ⟨rfl, t3, f3⟩; have hO3 := Blk.gm (w := wr.drew) hO t f3; have x3 := IsX.gm (w := wr.drew) x t f3; have y1' := hO3.cell 1; simp only [List.getElem?_toArray] at y1')
                            | (go_at_call 15; refine (xack_is _ w.heap.size gx b z D on ?_ H.out.2.2.2.1 i0 H.out.1 H.out.2.1 H.out.2.2.1 H.out.2.2.2.2).mono ?_; exact x3; rintro e w4 ⟨rfl, x4, f4⟩; have hO4 := Blk.xs hO3 f4 x3.blk; have t4 := IsW.xs t3 f4 hgne x3.blk; have y1'' := hO4.cell 1; simp only [List.getElem?_toArray] at y1''))
                        go_wp2_with fail
                        go_meet
                        exact ⟨by simp, hO4, mb, n + 1, _, by omega, by rw [List.length_set]; omega, hmb, t4, x4, Frm.thenX (Frm.thenA (S := No) F.drew f3 hg hmb) f4 (Nat.le_refl _) hgw⟩
                    · have HQ := Lib.hid hq
                      clear hq
                      go_wp2_with fail
                      go_region_held3 (fun w' => w'.cell? ⟨go, 1, none⟩ = some (.int .i64 on))
                        (first | go_keep)
                        (first
                          | (go_at_call 11; refine (ack_D_bad _ g b z mb n D on ?_ HQ.out).mono ?_; exact t; rintro e w3 ⟨rfl, f3⟩; have hO3 := f3.blk (by exact hO) (fun h => h); have x3 := IsX.frmN (by exact x) f3; have t3 := IsW.frm (by exact t) f3 (fun h => h) (fun h => h); have y1' := hO3.cell 1; simp only [List.getElem?_toArray] at y1')
                          | (go_at_call 15; refine (xack_arg _ w.heap.size gx b z D on ?_ HQ.out).mono ?_; exact x3; rintro e w4 ⟨rfl, rfl⟩))
                      go_wp2_with fail
                      go_meet
                      exact ⟨by simp, hO3, mb, n, D, by omega, by omega, hmb, t3, x3, Frm.thenN (S := No) F.drew f3⟩
                  · have hk1' : (kd == 1) = false := by simpa using hk1
                    clear hk1
                    by_cases hk2 : kd = 2
                    · have hk2' : (kd == 2) = true := by simpa using hk2
                      have HK := Lib.hid hk2
                      clear hk2
                      go_wp2_with fail
                      refine (reset_D _ g b z mb n D t).mono ?_
                      rintro e w3 ⟨rfl, mb3, hmb3, t3, f3⟩
                      have x3 := x.g1 t f3
                      have hO3 := Blk.g1 hO t f3
                      have hsz := F.size
                      have F3 := F.thenG f3 (.inr hg)
                      clear t x hO F f3
                      obtain ⟨hb, -, v, hbx, ho⟩ := x3
                      obtain ⟨A3, c3, rfl, -⟩ := own_bools ho
                      have q2 : w3.cell? ⟨gx, 2, none⟩ = some (.slice A3 D.length c3) := hbx.cell 2
                      have z2 := hbx.free 2
                      go_wp2_with fail
                      go_meet
                      refine ⟨rfl, Blk.other hO3 (Blk.ne hO3 hbx (by decide)) _, mb3, 0, [], by omega, by simp, by omega, ?_, ⟨hb, by simp, _, hbx.set 2 _, World.ownsRow_nil _ _ _ _⟩, F3.fresh hgw _ _⟩
                      exact t3.frm ((Frm.refl (fun k => k = gx) w3).self 2 _) hgne (fun e => t3.2.2.2.2.2.ne hbx e)
                    · have hk2' : (kd == 2) = false := by simpa using hk2
                      clear hk2
                      go_wp2_with fail
                      go_meet
                      exact ⟨rfl, hO, mb, n, D, by omega, by omega, hmb, t, x, F⟩
              case rest =>
                clear t x F hO y0 y2
                obtain ⟨rfl, hO, mb, n, D, hn, hD, hmb, t, x, F⟩ := hcut
                obtain ⟨x1, hx1⟩ : ∃ x1, nm b (fst D) = x1 := ⟨_, rfl⟩
                obtain ⟨x2, hx2⟩ : ∃ x2, nm b D.length = x2 := ⟨_, rfl⟩
                have xe := xends _ w.heap.size gx b z D x
                rw [hx1, hx2] at xe
                go_wp2_with fail
                refine (ends_D_is _ g b z mb n D x1 x2 t hx1 hx2).mono ?_
                rintro e w5 ⟨rfl, f5⟩
                have F5 := F.thenN f5
                have t5 := t.frm f5 (fun h => h) (fun h => h)
                have x5 := x.frmN f5
                have hO5 := f5.blk hO (fun h => h)
                clear t x F hO xe f5
                have xe := xends _ w.heap.size gx b z D x5
                rw [hx1, hx2] at xe
                go_wp2_with fail
                refine xe.mono ?_
                rintro e w6 ⟨rfl, f6⟩
                have F6 := F5.thenN f6
                have t6 := t5.frm f6 (fun h => h) (fun h => h)
                have x6 := x5.frmN f6
                have hO6 := f6.blk hO5 (fun h => h)
                have e1 : (x1 != x1) = false := by simp
                have e2 : (x2 != x2) = false := by simp
                clear t5 x5 F5 hO5 xe f6 hx1 hx2
                go_wp2_with fail
                go_roundw
                case rel => exact ⟨k + 1, by go_num, by omega, hO6, mb, n, D, by omega, by omega, hmb, t6, x6, F6⟩
                case measure => simp [intOf]; omega
            · have k4 : ¬ (k : Int) < 40 := by omega
              clear hO y0
              obtain ⟨fu, hfu⟩ : ∃ fu, full z D = fu := ⟨_, rfl⟩
              obtain ⟨L, hL⟩ : ∃ L, opensL b D = L := ⟨_, rfl⟩
              obtain ⟨op, hop⟩ : ∃ op, opD b D ask = op := ⟨_, rfl⟩
              obtain ⟨fa, hfa⟩ : ∃ fa, farD b D ask = fa := ⟨_, rfl⟩
              have hLL := opensL_le b D
              rw [hL] at hLL
              have e1 : (fu != fu) = false := by simp
              have e2 : (op != op) = false := by simp
              have e3 : (fa != fa) = false := by simp
              have c1 := stalled_D _ g b z mb n D t
              rw [hfu] at c1
              obtain ⟨wi, rfl⟩ : ∃ wi, wi = wr := ⟨_, rfl⟩
              go_wp2_with fail
              refine c1.mono ?_
              rintro e w3 ⟨rfl, f3⟩
              have F3 := F.thenN f3
              have t3 := t.frm f3 (fun h => h) (fun h => h)
              have x3 := x.frmN f3
              clear t x F f3 c1
              have c1 := xstalled _ w.heap.size gx b z D x3
              rw [hfu] at c1
              go_wp2_with fail
              refine c1.mono ?_
              rintro e w4 ⟨rfl, f4⟩
              have F4 := F3.thenN f4
              have t4 := t3.frm f4 (fun h => h) (fun h => h)
              have x4 := x3.frmN f4
              clear t3 x3 F3 f4 c1
              have c1 := all_D _ g b z mb n D t4
              rw [hL] at c1
              go_wp2_with fail
              refine c1.mono ?_
              rintro e w5 ⟨v5, rfl, o5, f5, -⟩
              obtain ⟨A5, c5, rfl, ra5⟩ := rdA_of o5
              have F5 := F4.thenN f5
              have t5 := t4.frm f5 (fun h => h) (fun h => h)
              have x5 := x4.frmN f5
              clear t4 x4 F4 f5 c1 o5
              have c1 := xall _ w.heap.size gx b z D x5
              rw [hL] at c1
              go_wp2_with fail
              refine c1.mono ?_
              rintro e w6 ⟨v6, rfl, o6, f6, -⟩
              obtain ⟨A6, c6, rfl, ra6⟩ := rdA_of o6
              have ra56 := ra5.frm f6 (fun _ _ _ h => h)
              have F6 := F5.thenN f6
              have t6 := t5.frm f6 (fun h => h) (fun h => h)
              have x6 := x5.frmN f6
              clear t5 x5 F5 f6 c1 o6 ra5
              go_wp2_with fail
              refine (same_yes _ _ _ _ _ _ L rfl (by omega) ra56 ra6).mono ?_
              rintro e w7 ⟨rfl, f7⟩
              have F7 := F6.thenN f7
              have t7 := t6.frm f7 (fun h => h) (fun h => h)
              have x7 := x6.frmN f7
              clear t6 x6 F6 f7 ra6 ra56
              go_wp2_with fail
              refine (open_D_is _ g b z mb n D ask op t7 hask hop).mono ?_
              rintro e w8 ⟨rfl, f8⟩
              have F8 := F7.thenN f8
              have t8 := t7.frm f8 (fun h => h) (fun h => h)
              have x8 := x7.frmN f8
              clear t7 x7 F7 f8
              go_wp2_with fail
              refine (xopen _ w.heap.size gx b z D ask x8).mono ?_
              rintro e w9 ⟨⟨op2, rfl, hop2⟩, rfl⟩
              obtain rfl : op2 = op := by rw [← hop]; exact Bool.eq_iff_iff.2 (hop2.trans (opD_iff t8 ask).symm)
              clear hop2
              have c1 := far_D _ g b z mb n D ask t8
              rw [hfa] at c1
              go_wp2_with fail
              refine c1.mono ?_
              rintro e w9 ⟨rfl, f9⟩
              have F9 := F8.thenN f9
              have t9 := t8.frm f9 (fun h => h) (fun h => h)
              have x9 := x8.frmN f9
              clear t8 x8 F8 f9 c1
              have c1 := xfar _ w.heap.size gx b z D ask x9
              rw [hfa] at c1
              go_wp2_with fail
              refine c1.mono ?_
              rintro e w10 ⟨rfl, f10⟩
              have F10 := F9.thenN f10
              have t10 := t9.frm f10 (fun h => h) (fun h => h)
              have x10 := x9.frmN f10
              clear t9 x9 F9 f10 c1
              go_wp2_with fail
              go_roundw
              case rel => exact ⟨i + 1, by go_num, by omega, mb, n, D, by omega, by omega, hmb, t10, x10, F10⟩
              case measure => simp [intOf]; omega
          · have kz := hkt
            clear hO y0
            obtain ⟨fu, hfu⟩ : ∃ fu, full z D = fu := ⟨_, rfl⟩
            obtain ⟨L, hL⟩ : ∃ L, opensL b D = L := ⟨_, rfl⟩
            obtain ⟨op, hop⟩ : ∃ op, opD b D ask = op := ⟨_, rfl⟩
            obtain ⟨fa, hfa⟩ : ∃ fa, farD b D ask = fa := ⟨_, rfl⟩
            have hLL := opensL_le b D
            rw [hL] at hLL
            have e1 : (fu != fu) = false := by simp
            have e2 : (op != op) = false := by simp
            have e3 : (fa != fa) = false := by simp
            have c1 := stalled_D _ g b z mb n D t
            rw [hfu] at c1
            obtain ⟨wi, rfl⟩ : ∃ wi, wi = wr := ⟨_, rfl⟩
            go_wp2_with fail
            refine c1.mono ?_
            rintro e w3 ⟨rfl, f3⟩
            have F3 := F.thenN f3
            have t3 := t.frm f3 (fun h => h) (fun h => h)
            have x3 := x.frmN f3
            clear t x F f3 c1
            have c1 := xstalled _ w.heap.size gx b z D x3
            rw [hfu] at c1
            go_wp2_with fail
            refine c1.mono ?_
            rintro e w4 ⟨rfl, f4⟩
            have F4 := F3.thenN f4
            have t4 := t3.frm f4 (fun h => h) (fun h => h)
            have x4 := x3.frmN f4
            clear t3 x3 F3 f4 c1
            have c1 := all_D _ g b z mb n D t4
            rw [hL] at c1
            go_wp2_with fail
            refine c1.mono ?_
            rintro e w5 ⟨v5, rfl, o5, f5, -⟩
            obtain ⟨A5, c5, rfl, ra5⟩ := rdA_of o5
            have F5 := F4.thenN f5
            have t5 := t4.frm f5 (fun h => h) (fun h => h)
            have x5 := x4.frmN f5
            clear t4 x4 F4 f5 c1 o5
            have c1 := xall _ w.heap.size gx b z D x5
            rw [hL] at c1
            go_wp2_with fail
            refine c1.mono ?_
            rintro e w6 ⟨v6, rfl, o6, f6, -⟩
            obtain ⟨A6, c6, rfl, ra6⟩ := rdA_of o6
            have ra56 := ra5.frm f6 (fun _ _ _ h => h)
            have F6 := F5.thenN f6
            have t6 := t5.frm f6 (fun h => h) (fun h => h)
            have x6 := x5.frmN f6
            clear t5 x5 F5 f6 c1 o6 ra5
            go_wp2_with fail
            refine (same_yes _ _ _ _ _ _ L rfl (by omega) ra56 ra6).mono ?_
            rintro e w7 ⟨rfl, f7⟩
            have F7 := F6.thenN f7
            have t7 := t6.frm f7 (fun h => h) (fun h => h)
            have x7 := x6.frmN f7
            clear t6 x6 F6 f7 ra6 ra56
            go_wp2_with fail
            refine (open_D_is _ g b z mb n D ask op t7 hask hop).mono ?_
            rintro e w8 ⟨rfl, f8⟩
            have F8 := F7.thenN f8
            have t8 := t7.frm f8 (fun h => h) (fun h => h)
            have x8 := x7.frmN f8
            clear t7 x7 F7 f8
            go_wp2_with fail
            refine (xopen _ w.heap.size gx b z D ask x8).mono ?_
            rintro e w9 ⟨⟨op2, rfl, hop2⟩, rfl⟩
            obtain rfl : op2 = op := by rw [← hop]; exact Bool.eq_iff_iff.2 (hop2.trans (opD_iff t8 ask).symm)
            clear hop2
            have c1 := far_D _ g b z mb n D ask t8
            rw [hfa] at c1
            go_wp2_with fail
            refine c1.mono ?_
            rintro e w9 ⟨rfl, f9⟩
            have F9 := F8.thenN f9
            have t9 := t8.frm f9 (fun h => h) (fun h => h)
            have x9 := x8.frmN f9
            clear t8 x8 F8 f9 c1
            have c1 := xfar _ w.heap.size gx b z D ask x9
            rw [hfa] at c1
            go_wp2_with fail
            refine c1.mono ?_
            rintro e w10 ⟨rfl, f10⟩
            have F10 := F9.thenN f10
            have t10 := t9.frm f10 (fun h => h) (fun h => h)
            have x10 := x9.frmN f10
            clear t9 x9 F9 f10 c1
            go_wp2_with fail
            go_roundw
            case rel => exact ⟨i + 1, by go_num, by omega, mb, n, D, by omega, by omega, hmb, t10, x10, F10⟩
            case measure => simp [intOf]; omega
      · have i60 : ¬ (i : Int) < 60 := by omega
        clear t x hn hD hmb
        obtain ⟨wi, rfl⟩ : ∃ wi, wi = wr := ⟨_, rfl⟩
        have z0 := Blk.new wi zeroA 53
        have F0 := F.alloc (.cells zeroA 53)
        obtain ⟨gz, hgz⟩ : ∃ gz, wi.heap.size = gz := ⟨_, rfl⟩
        rw [hgz] at z0
        unfold zeroA at z0 F0
        clear F
        go_wp2_with fail
        try rw [hgz]
        generalize (wi.alloc (.cells #[.int .i64 0, .int .i64 0, .int .i64 0, .int .i64 0, .map none] 53)) = w3 at *
        change Blk w3 gz zeroA 53 at z0
        clear hgz
        refine (reset_nil _).mono ?_
        rintro e w4 ⟨rfl, rfl⟩
        go_wp2_with fail
        refine (next_nil _).mono ?_
        rintro e w4 ⟨rfl, rfl⟩
        go_wp2_with fail
        refine (next_zero _ gz z0).mono ?_
        rintro e w4 ⟨rfl, rfl⟩
        go_wp2_with fail
        refine (ends_zero _ gz z0).mono ?_
        rintro e w4 ⟨rfl, rfl⟩
        go_wp2_with fail
        refine (alive_yes _).mono ?_
        rintro e w4 ⟨rfl, f4⟩
        have z4 := f4.blk z0 (fun h => h)
        have F4 := F0.thenN f4
        clear z0 F0 f4
        go_wp2_with fail
        refine (ack_nil _ _).mono ?_
        rintro e w5 ⟨rfl, rfl⟩
        go_wp2_with fail
        refine (ack_zero _ gz _ z4).mono ?_
        rintro e w5 ⟨rfl, rfl⟩
        go_wp2_with fail
        refine (open_nil _ _).mono ?_
        rintro e w5 ⟨rfl, f5⟩
        have z5 := f5.blk z4 (fun h => h)
        have F5 := F4.thenN f5
        clear z4 F4 f5
        go_wp2_with fail
        refine (stalled_zero _ gz z5).mono ?_
        rintro e w6 ⟨rfl, f6⟩
        have F6 := F5.thenN f6
        clear z5 F5 f6
        go_wp2_with fail
        refine (far_nil _ _).mono ?_
        rintro e w7 ⟨rfl, rfl⟩
        go_wp2_with fail
        refine (all_nil _).mono ?_
        rintro e w7 ⟨v7, rfl, o7, f7, -⟩
        obtain ⟨A7, c7, rfl, -⟩ := rdA_of (L := []) (by exact o7)
        have F7 := F6.thenN f7
        clear F6 f7 o7
        go_wp2_with fail
        go_ret
        exact ⟨rfl, F7⟩
    · have il : ¬ (i : Int) < (len : Int) := by omega
      clear t x hn hD hmb
      obtain ⟨wi, rfl⟩ : ∃ wi, wi = wr := ⟨_, rfl⟩
      have z0 := Blk.new wi zeroA 53
      have F0 := F.alloc (.cells zeroA 53)
      obtain ⟨gz, hgz⟩ : ∃ gz, wi.heap.size = gz := ⟨_, rfl⟩
      rw [hgz] at z0
      unfold zeroA at z0 F0
      clear F
      go_wp2_with fail
      try rw [hgz]
      generalize (wi.alloc (.cells #[.int .i64 0, .int .i64 0, .int .i64 0, .int .i64 0, .map none] 53)) = w3 at *
      change Blk w3 gz zeroA 53 at z0
      clear hgz
      refine (reset_nil _).mono ?_
      rintro e w4 ⟨rfl, rfl⟩
      go_wp2_with fail
      refine (next_nil _).mono ?_
      rintro e w4 ⟨rfl, rfl⟩
      go_wp2_with fail
      refine (next_zero _ gz z0).mono ?_
      rintro e w4 ⟨rfl, rfl⟩
      go_wp2_with fail
      refine (ends_zero _ gz z0).mono ?_
      rintro e w4 ⟨rfl, rfl⟩
      go_wp2_with fail
      refine (alive_yes _).mono ?_
      rintro e w4 ⟨rfl, f4⟩
      have z4 := f4.blk z0 (fun h => h)
      have F4 := F0.thenN f4
      clear z0 F0 f4
      go_wp2_with fail
      refine (ack_nil _ _).mono ?_
      rintro e w5 ⟨rfl, rfl⟩
      go_wp2_with fail
      refine (ack_zero _ gz _ z4).mono ?_
      rintro e w5 ⟨rfl, rfl⟩
      go_wp2_with fail
      refine (open_nil _ _).mono ?_
      rintro e w5 ⟨rfl, f5⟩
      have z5 := f5.blk z4 (fun h => h)
      have F5 := F4.thenN f5
      clear z4 F4 f5
      go_wp2_with fail
      refine (stalled_zero _ gz z5).mono ?_
      rintro e w6 ⟨rfl, f6⟩
      have F6 := F5.thenN f6
      clear z5 F5 f6
      go_wp2_with fail
      refine (far_nil _ _).mono ?_
      rintro e w7 ⟨rfl, rfl⟩
      go_wp2_with fail
      refine (all_nil _).mono ?_
      rintro e w7 ⟨v7, rfl, o7, f7, -⟩
      obtain ⟨A7, c7, rfl, -⟩ := rdA_of (L := []) (by exact o7)
      have F7 := F6.thenN f7
      clear F6 f7 o7
      go_wp2_with fail
      go_ret
      exact ⟨rfl, F7⟩
end Go.Proofs.Ythefmklblfjfeaa.A
