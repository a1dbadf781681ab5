/- TimersAnew's walk. -/
import Derived.Test.YtighfhdkgfgcmaaH
namespace Go.Proofs.Ytighfhdkgfgcmaa.A
open Go.RowKit Go.Proofs.Ytighfhdkgfgcmaa.K Go.Proofs.Ytighfhdkgfgcmaa.N
set_option linter.unusedVariables false
set_option linter.unusedSimpArgs false

/-- One timer alone has something left. -/
def Lonely (L : List Int) (k : Nat) (v : Int) : Prop := Fit L ∧ L.getD k 0 = v ∧ ∀ q, q ≠ k → L.getD q 0 = 0
theorem lonely_set {k : Nat} (hk : k < 8) (v : Int) (h0 : 0 ≤ v) (h1 : v ≤ 1000) : Lonely (([0, 0, 0, 0, 0, 0, 0, 0] : List Int).set k v) k v := by
  refine ⟨fit_set fit_zero _ _ h0 h1, by rw [getD_set _ _ _ _ (by simp; omega), if_pos rfl], fun q hq => ?_⟩
  rw [getD_set _ _ _ _ (by simp; omega), if_neg hq]
  match q with
  | 0 | 1 | 2 | 3 | 4 | 5 | 6 | 7 => rfl
  | n + 8 => rfl
theorem lonely_tick {L : List Int} {k : Nat} {v : Int} (h : Lonely L k v) (hv : 2 ≤ v) : Lonely (tickL L) k (v - 1) ∧ tickO L = [] := by
  refine ⟨⟨fit_tick h.1, by rw [tickL_getD, h.2.1, if_pos (by omega)], fun q hq => by rw [tickL_getD, h.2.2 q hq]; rfl⟩, ?_⟩
  unfold tickO
  rw [List.filter_eq_nil_iff]
  intro q _
  by_cases hq : q = k
  · subst hq; rw [h.2.1]; simp; omega
  · rw [h.2.2 q hq]; simp

/-- Behind the first ticks. -/
def Anew1 (w : World) (g : Nat) (wx : World) : Prop := ∃ L, IsT wx g true L ∧ Fit L ∧ Frm No w wx
/-- Behind a Start, or none. -/
def Anew3 (w : World) (g k : Nat) (wx : World) : Prop := ∃ L, IsT wx g true L ∧ Fit L ∧ L.getD k 0 = 0 ∧ Frm No w wx
/-- At the head of the loop over the calls. -/
def Anew2 (w : World) (g k : Nat) (vj : Value) (wx : World) : Prop := ∃ (j : Nat) (L : List Int), vj = .int .i64 j ∧ j ≤ 100 ∧ IsT wx g true L ∧ Fit L ∧ L.getD k 0 = 0 ∧ Frm No w wx

set_option maxRecDepth 100000 in
set_option maxHeartbeats 8000000 in
theorem anew_core (n m k z : Nat) (hn : 2 ≤ n) (hn2 : n ≤ 40) (hm : 1 ≤ m) (hm2 : m ≤ 40) (hk : k < 8) (hz : z ≤ 255) (i a b : Int) (ei : bits .and .u8 i 7 = k) (ea : bits .and .u8 a 31 = (n : Int) - 2) (eb : bits .and .u8 b 31 = (m : Int) - 1)
    (A : Option Addr) (len c : Nat) (ops : List TOp) (w : World) (hI : IsOps w A len ops) :
    Calls Try.prog 5 #[.int .u8 i, .int .u8 a, .int .u8 b, .int .u8 z, .slice A len c] w fun e w' => e = .returned (.bool true) ∧ Frm No w w' := by
  have hn9 : len ≤ 9223372036854775807 := hI.2.1
  go_enter Try.func5, Try.ntmps5
  go_wp2_with fail
  refine (new_ok _).mono ?_
  rintro e w1 ⟨rfl, t1, f1⟩
  go_wp2_with fail
  rw [show (2 + ((n : Int) - 2)) = (n : Int) by omega, show (1 + ((m : Int) - 1)) = (m : Int) by omega]
  refine (start_ok _ w.heap.size _ k n t1 hk (by omega) (by omega)).mono ?_
  rintro e w2 ⟨rfl, t2, f2⟩
  have g2 := f1.thenG f2 (.inr (Nat.le_refl _))
  have hlo := lonely_set hk (n : Int) (by omega) (by omega)
  generalize ([0, 0, 0, 0, 0, 0, 0, 0] : List Int).set k n = L0 at *
  clear f1 f2 t1 ei ea eb
  go_upto_block 0 with fail
  go_cut [16] (fun _ wx => Anew1 w w.heap.size wx)
  case first =>
    go_wp2_with fail
    go_loopw [16] (fun vj wr => ∃ (j : Nat) (L : List Int), vj = .int .i64 j ∧ j + 1 ≤ n ∧ Lonely L k ((n : Int) - j) ∧ IsT wr w.heap.size true L ∧ Frm No w wr) (fun vj _ => n - (intOf vj).toNat)
    case atStart => exact ⟨0, L0, rfl, by omega, by simpa using hlo, t2, g2⟩
    case round =>
      clear t2 g2 hlo
      obtain ⟨j, L, rfl, hj, hl, ht, hF⟩ := hrel
      by_cases h1 : j < z
      · by_cases h2 : (j : Int) < (n : Int) - 1
        · obtain ⟨hl2, ho⟩ := lonely_tick hl (by omega)
          have HO := Lib.hid ho
          have hfit := hl.1
          clear ho hl
          go_wp2_with fail
          refine (tick_is _ w.heap.size L _ [] ht hfit rfl HO.out).mono ?_
          rintro e w4 ⟨v, rfl, ov, f4, t4⟩
          obtain ⟨A4, c4, rfl, -⟩ := handed_cells (l := []) ov
          have g4 := hF.thenG f4 (.inr (Nat.le_refl _))
          clear ov f4 ht hF
          go_wp2_with fail
          go_roundw
          case rel => exact ⟨j + 1, _, by go_num, by omega, by rw [show ((n : Int) - ((j + 1 : Nat) : Int)) = (n : Int) - j - 1 by omega]; exact hl2, t4, g4⟩
          case measure => simp [intOf]; omega
        · go_wp2_with fail
          go_meet
          exact ⟨L, ht, hl.1, hF⟩
      · go_wp2_with fail
        go_meet
        exact ⟨L, ht, hl.1, hF⟩
  case rest =>
    clear t2 g2 hlo
    obtain ⟨L, ht, hfit, hF⟩ := hcut
    go_wp2_with fail
    refine (start_ok _ w.heap.size L k m ht hk (by omega) (by omega)).mono ?_
    rintro e w4 ⟨rfl, t4, f4⟩
    have g4 := hF.thenG f4 (.inr (Nat.le_refl _))
    have e4 : (L.set k (m : Int)).getD k 0 = (m : Int) := by rw [getD_set _ _ _ _ (by have := hfit.1; omega), if_pos rfl]
    have E4 := Lib.hid e4
    have fit4 := fit_set hfit k (m : Int) (by omega) (by omega)
    clear e4 f4 ht hF hfit
    go_wp2_with fail
    refine (left_is _ w.heap.size _ k (m : Int) t4 hk E4.out).mono ?_
    rintro e w5 ⟨rfl, rfl⟩
    go_wp2_with fail
    refine (stop_ok _ w.heap.size _ k t4 hk).mono ?_
    rintro e w5 ⟨rfl, t5, f5⟩
    have g5 := g4.thenG f5 (.inr (Nat.le_refl _))
    have e5 : ((L.set k (m : Int)).set k 0).getD k 0 = 0 := by rw [getD_set _ _ _ _ (by have := fit4.1; omega), if_pos rfl]
    have E5 := Lib.hid e5
    have fit5 := fit_set fit4 k 0 (by omega) (by omega)
    clear e5 E4 f5 t4 g4 fit4
    generalize (L.set k (m : Int)).set k 0 = L5 at *
    go_wp2_with fail
    refine (left_is _ w.heap.size _ k 0 t5 hk E5.out).mono ?_
    rintro e w6 ⟨rfl, rfl⟩
    go_wp2_with fail
    go_loopw [18] (fun vj wr => Anew2 w w.heap.size k vj wr) (fun vj _ => 100 - (intOf vj).toNat)
    case atStart => exact ⟨0, L5, rfl, by omega, t5, fit5, E5.out, g5⟩
    case round =>
      clear t5 g5 fit5 E5
      obtain ⟨j, L, rfl, hj, ht, hfit, hleft, hF⟩ := hrel
      have HL := Lib.hid hleft
      clear hleft
      by_cases hlt : j < len
      · by_cases hlt3 : j < 100
        · have hlo : j < ops.length := by rw [hI.1]; exact hlt
          obtain ⟨ad, rfl, hbk, o0, o1, o2⟩ := hI.2.2 j _ (List.getElem?_eq_getElem hlo)
          obtain ⟨⟨kd, oi, on⟩, ho⟩ : ∃ o, ops[j] = o := ⟨_, rfl⟩
          rw [ho] at o0 o1 o2
          simp only at o0 o1 o2
          have tr : ∀ i v, w.cell? (ad.add i) = some v → wr.cell? (ad.add i) = some v := fun i v h => by
            rw [← h]; exact World.cell?_of_block (hF.block _ (by rw [block_add]; exact hbk) (fun h => h))
          have o0' := tr _ _ o0
          have o1' := tr _ _ o1
          have o2' := tr _ _ o2
          rw [add_spell _ _ _ (by omega)] at o1' o2'
          clear o0 o1 o2 ho tr
          obtain ⟨wo, rfl⟩ : ∃ wo, wo = wr := ⟨_, rfl⟩
          have i0 : (0 : Int) ≤ (j : Int) := Int.natCast_nonneg _
          have i1 : (j : Int) < (len : Int) := by omega
          have hb1 : (ad.add (j * 3)).block < wo.heap.size := by rw [block_add]; exact Nat.lt_of_lt_of_le hbk hF.size
          have hb2 : ¬ (ad.add (j * 3)).block = w.heap.size := by rw [block_add]; omega
          go_upto_region 15 with fail
          go_cut [106] (fun v wx => v = .bool ((kd == 0) && (oi != (k : Int))) ∧ wx = wo)
          case first =>
            by_cases h0 : (kd == 0) = true
            · go_wp2_with fail
              go_meet
              exact ⟨by rw [h0]; rfl, rfl⟩
            · have d0 : (kd == 0) = false := by simpa using h0
              clear h0
              go_wp2_with fail
              go_meet
              exact ⟨by rw [d0]; rfl, rfl⟩
          case rest =>
          obtain ⟨rfl, rfl⟩ := hcut
          obtain ⟨q, hq⟩ : ∃ q, ((kd == 0) && (oi != (k : Int))) = q := ⟨_, rfl⟩
          rw [hq]
          have HQ := Lib.hid hq
          clear hq
          go_upto_if 106 with fail
          go_cut [106] (fun _ wx => Anew3 w w.heap.size k wx)
          case first =>
            cases q
            · go_wp2_with fail
              go_meet
              exact ⟨L, ht, hfit, HL.out, hF⟩
            · have HK : oi ≠ k := by
                have := HQ.out
                simp only [Bool.and_eq_true, bne_iff_ne] at this
                exact this.2
              have HK2 := Lib.hid HK
              clear HK
              go_wp2_with fail
              go_region_held3 (fun w' => w'.cell? ⟨(ad.add (j * 3)).block, (ad.add (j * 3)).off + 1, none⟩ = some (.int .i64 oi) ∧ w'.cell? ⟨(ad.add (j * 3)).block, (ad.add (j * 3)).off + 2, none⟩ = some (.int .i64 on))
                (first | go_keep)
                (first | (go_at_call 7; refine (start_any _ w.heap.size L oi on ?_).mono ?_; exact ht; rintro e w4 ⟨rfl, t4, f4⟩; have k1 := (World.cell?_of_block (f4.block ((ad.add (j * 3)).block) (by exact hb1) (by exact hb2)) : w4.cell? ⟨(ad.add (j * 3)).block, (ad.add (j * 3)).off + 1, none⟩ = _).trans o1'; have k2 := (World.cell?_of_block (f4.block ((ad.add (j * 3)).block) (by exact hb1) (by exact hb2)) : w4.cell? ⟨(ad.add (j * 3)).block, (ad.add (j * 3)).off + 2, none⟩ = _).trans o2'))
              go_wp2_with fail
              go_meet
              exact ⟨_, t4, fit_start hfit _ _, by rw [start_other hfit.1 HK2.out]; exact HL.out, hF.drew.thenG f4 (.inr (Nat.le_refl _))⟩
          case rest =>
            clear ht hF hfit HL o0' o1' o2'
            obtain ⟨L, ht, hfit, hleft, hF⟩ := hcut
            have hne := tickO_mem L hk
            have hlen := tickO_len L
            have hlt8 := tickO_lt L
            have hfit2 := fit_tick hfit
            have hnew := tickL_getD L k
            rw [hleft] at hnew hne
            have hnot : k ∉ tickO L := fun h => by have := hne.1 h; omega
            clear hne
            go_wp2_with fail
            refine (tick_ok _ w.heap.size L ht (fun q => (hfit.2 q).2)).mono ?_
            rintro e w4 ⟨v, rfl, ov, f4, t4⟩
            obtain ⟨A4, c4, rfl, hcl⟩ := handed_cells ov
            have g4 := hF.thenG f4 (.inr (Nat.le_refl _))
            generalize tickO L = O at *
            generalize tickL L = L2 at *
            have HN := Lib.hid hnew
            have HO := Lib.hid hnot
            have HC := Lib.hid hcl
            clear ov hF f4 ht hnew hcl hnot hleft hfit hlt8
            go_wp2_with fail
            go_loopw [20] (fun vx w' => w' = w4 ∧ ∃ x : Nat, vx = .int .i64 x ∧ x ≤ O.length) (fun vx _ => O.length - (intOf vx).toNat)
            case atStart => exact ⟨rfl, 0, rfl, by omega⟩
            case round =>
              obtain ⟨rfl, x, rfl, hx⟩ := hrel
              by_cases hxl : x < O.length
              · obtain ⟨ad4, rfl, -, hc1⟩ := HC.out x hxl
                have hzk : (((O.getD x 0 : Nat) : Int) == (k : Int)) = false := by
                  have : O.getD x 0 ≠ k := fun e => HO.out (by
                    rw [List.getD_eq_getElem?_getD, List.getElem?_eq_getElem hxl] at e
                    exact e ▸ List.getElem_mem hxl)
                  rw [beq_eq_false_iff_ne]; omega
                obtain ⟨y, hy⟩ : ∃ y, O.getD x 0 = y := ⟨_, rfl⟩
                rw [hy] at hc1 hzk
                clear hy
                go_wp2_with fail
                go_roundw
                case rel => exact ⟨trivial, x + 1, by go_num, by omega⟩
                case measure => simp [intOf]; omega
              · go_wp2_with fail
                go_roundw
                case rel => exact ⟨j + 1, L2, by go_num, by omega, t4, hfit2, by rw [HN.out]; rfl, g4⟩
                case measure => simp [intOf]; omega
        · clear hfit HL
          go_wp2_with fail
          refine (clear_ok _ w.heap.size true L ht).mono ?_
          rintro e w4 ⟨rfl, t4, f4⟩
          have g4 := hF.thenG f4 (.inr (Nat.le_refl _))
          clear hF f4 ht
          go_wp2_with fail
          refine (alive_yes _).mono ?_
          rintro e w5 ⟨rfl, f5⟩
          have t5 := t4.frm f5 (fun h => h)
          have g5 := g4.thenN f5
          clear f5 g4 t4
          go_wp2_with fail
          refine (running_ok _ w.heap.size _ t5).mono ?_
          rintro e w6 ⟨v6, rfl, o6, f6, -⟩
          obtain ⟨A6, c6, rfl, -⟩ := handed_cells (l := []) (by exact o6)
          have t6 := t5.frm f6 (fun h => h)
          have g6 := g5.thenN f6
          clear o6 f6 g5 t5
          go_wp2_with fail
          refine (tick_is _ w.heap.size _ [0, 0, 0, 0, 0, 0, 0, 0] [] t6 fit_zero (by decide) (by decide)).mono ?_
          rintro e w7 ⟨v7, rfl, o7, f7, -⟩
          obtain ⟨A7, c7, rfl, -⟩ := handed_cells (l := []) (by exact o7)
          have g7 := g6.thenG f7 (.inr (Nat.le_refl _))
          clear o7 f7
          go_wp2_with fail
          go_ret
          exact ⟨rfl, g7⟩
      · clear hfit HL
        go_wp2_with fail
        refine (clear_ok _ w.heap.size true L ht).mono ?_
        rintro e w4 ⟨rfl, t4, f4⟩
        have g4 := hF.thenG f4 (.inr (Nat.le_refl _))
        clear hF f4 ht
        go_wp2_with fail
        refine (alive_yes _).mono ?_
        rintro e w5 ⟨rfl, f5⟩
        have t5 := t4.frm f5 (fun h => h)
        have g5 := g4.thenN f5
        clear f5 g4 t4
        go_wp2_with fail
        refine (running_ok _ w.heap.size _ t5).mono ?_
        rintro e w6 ⟨v6, rfl, o6, f6, -⟩
        obtain ⟨A6, c6, rfl, -⟩ := handed_cells (l := []) (by exact o6)
        have t6 := t5.frm f6 (fun h => h)
        have g6 := g5.thenN f6
        clear o6 f6 g5 t5
        go_wp2_with fail
        refine (tick_is _ w.heap.size _ [0, 0, 0, 0, 0, 0, 0, 0] [] t6 fit_zero (by decide) (by decide)).mono ?_
        rintro e w7 ⟨v7, rfl, o7, f7, -⟩
        obtain ⟨A7, c7, rfl, -⟩ := handed_cells (l := []) (by exact o7)
        have g7 := g6.thenG f7 (.inr (Nat.le_refl _))
        clear o7 f7
        go_wp2_with fail
        go_ret
        exact ⟨rfl, g7⟩

theorem anew_walk (i a b z : Int) (A : Option Addr) (len c : Nat) (ops : List TOp) (w : World) (hi : (Lit.int .u8 i).wf = true) (ha : (Lit.int .u8 a).wf = true) (hb : (Lit.int .u8 b).wf = true) (hz : (Lit.int .u8 z).wf = true) (hI : IsOps w A len ops) :
    Calls Try.prog 5 #[.int .u8 i, .int .u8 a, .int .u8 b, .int .u8 z, .slice A len c] w fun e w' => e = .returned (.bool true) ∧ Frm No w w' := by
  obtain ⟨k, hk, e1⟩ := and7 hi
  obtain ⟨p, hp, e2⟩ := and31 ha
  obtain ⟨q, hq, e3⟩ := and31 hb
  obtain ⟨h0, h1⟩ := u8_of hz
  obtain ⟨z', rfl⟩ := Int.eq_ofNat_of_zero_le h0
  exact anew_core (p + 2) (q + 1) k z' (by omega) (by omega) (by omega) (by omega) hk (by omega) i a b e1 (by rw [e2]; omega) (by rw [e3]; omega) A len c ops w hI
end Go.Proofs.Ytighfhdkgfgcmaa.A
