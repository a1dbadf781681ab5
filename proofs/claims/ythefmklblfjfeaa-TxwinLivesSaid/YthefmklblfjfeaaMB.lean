/- TxwinMeets' walk. -/
import Derived.Test.YthefmklblfjfeaaMA
namespace Go.Proofs.Ythefmklblfjfeaa.A
open Go.RowKit Go.Proofs.Ythefmklblfjfeaa.K Go.Proofs.Ythefmklblfjfeaa.N
set_option linter.unusedVariables false
set_option linter.unusedSimpArgs false

theorem and63 {a : Int} (h : (Lit.int .u8 a).wf = true) : ∃ k : Nat, k < 64 ∧ bits .and .u8 a 63 = k := by
  simp only [Lit.wf, Bool.and_eq_true, decide_eq_true_eq] at h
  obtain ⟨h0, h1⟩ := h
  have h1' : a ≤ 255 := h1
  have h0' : 0 ≤ a := h0
  have e : bits .and .u8 a 63 = a % 64 := by
    rw [u8_and a 63 h0' (by omega) (by omega) (by omega), show (63 : Int).toNat = 63 from rfl, nat_mask6]; omega
  exact ⟨(a % 64).toNat, by omega, by rw [e]; omega⟩
theorem u16_of {a : Int} (h : (Lit.int .u16 a).wf = true) : 0 ≤ a ∧ a ≤ 65535 := by
  simp only [Lit.wf, Bool.and_eq_true, decide_eq_true_eq] at h
  exact h

def MtO (w : World) (g : Nat) (b z : Int) (mb : Nat) (vi : Value) (wr : World) : Prop :=
  ∃ (i n : Nat) (D : List Bool), vi = .int .i64 i ∧ i ≤ 40 ∧ n ≤ i ∧ IsW wr g b z mb n D ∧ Frm No w wr
def MtI (w : World) (g : Nat) (b z : Int) (mb n c : Nat) (vk : Value) (wr : World) : Prop :=
  ∃ (k : Nat) (D : List Bool), vk = .int .i64 k ∧ k ≤ c ∧ IsW wr g b z mb n D ∧ Frm No w wr
/-- A slice of L's numbers, by its address. -/
def RdA (w : World) (A : Option Addr) (L : List Int) : Prop := ∀ j, j < L.length → ∃ ad, A = some ad ∧ (∃ cs, Blk w ad.block cs 3) ∧ w.cell? (ad.add j) = some (.int .i64 (L.getD j 0))
theorem rdA_of {w : World} {B : Nat} {v : Value} {L : List Int} (h : w.ownsRow B 3 1 v L.length (L.map (Value.int .i64))) : ∃ A c, v = .slice A L.length c ∧ RdA w A L := by
  rcases h.2 with ⟨rfl, h0⟩ | ⟨g, cap, cur, rfl, hg, hh, h1, h2, h3⟩
  · have hL : L = [] := by simpa using h0
    subst hL
    exact ⟨none, 0, rfl, fun j hj => absurd hj (by simp)⟩
  · refine ⟨_, cap, rfl, fun j hj => ⟨_, rfl, ⟨cur, hh⟩, ?_⟩⟩
    refine h.cells (g := g) rfl j _ ?_
    simp [List.getElem?_eq_getElem hj, List.getD_eq_getElem?_getD]
theorem RdA.frm {w w' : World} {S : Nat → Prop} {A : Option Addr} {L : List Int} (h : RdA w A L) (f : Frm S w w') (hS : ∀ k cs, Blk w k cs 3 → ¬ S k) : RdA w' A L := fun j hj => by
  obtain ⟨ad, e, ⟨cs, hb⟩, hc⟩ := h j hj
  refine ⟨ad, e, ⟨cs, f.blk hb (hS _ _ hb)⟩, ?_⟩
  exact (World.cell?_of_block (f.block _ (by rw [block_add]; exact hb.lt) (by rw [block_add]; exact hS _ _ hb))).trans hc
theorem IsW.apart {w : World} {g : Nat} {b z : Int} {mb n : Nat} {D : List Bool} (h : IsW w g b z mb n D) : ∀ k cs, Blk w k cs 3 → ¬ (k = g ∨ k = mb) := fun k cs hb e => by
  rcases e with rfl | rfl
  · exact Blk.ne hb h.2.2.2.2.1 (by decide) rfl
  · exact h.2.2.2.2.2.ne hb rfl
def MtL (w : World) (g : Nat) (b z : Int) (mb : Nat) (L : List Int) (A : Option Addr) (vi : Value) (wr : World) : Prop :=
  ∃ (q n : Nat) (D : List Bool), vi = .int .i64 ((q : Int) - 1) ∧ q ≤ L.length ∧ n + q ≤ 100000 ∧ IsW wr g b z mb n D ∧ opensL b D = L.take q ∧ RdA wr A L ∧ Frm No w wr

set_option maxRecDepth 100000 in
set_option maxHeartbeats 8000000 in
theorem meets_core (b z : Int) (A1 A2 : Option Addr) (n1 n2 c1 c2 : Nat) (many order : List Int) (w : World) (hmay : mayW b z = true) (hI1 : Ints w .u8 A1 n1 many) (hI2 : Ints w .u16 A2 n2 order) :
    Calls Try.prog 3 #[.int .i64 b, .int .i64 z, .slice A1 n1 c1, .slice A2 n2 c2] w fun e w' => e = .returned (.bool true) ∧ Frm No w w' := by
  have hm : (1 ≤ b ∧ b ≤ 16) ∧ 1 ≤ z ∧ 2 * z ≤ sz b := of_decide_eq_true hmay
  obtain ⟨⟨hb1, hb2⟩, hz1, hz2⟩ := hm
  have hS := sz_range ⟨hb1, hb2⟩
  have hn1 := hI1.2.1
  have hn2 := hI2.2.1
  have zle : z ≤ 32768 := by omega
  clear hz2
  go_enter Try.func3, Try.ntmps3
  go_wp2_with fail
  refine (new_ok b z _ hmay).mono ?_
  rintro e w1 ⟨g, mb, rfl, hg, hmb, t1, F1⟩
  clear hmay
  go_wp2_with fail
  go_loopw [11] (fun vi wr => MtO w g b z mb vi wr) (fun vi _ => 40 - (intOf vi).toNat)
  case atStart => exact ⟨0, 0, [], rfl, by omega, by omega, t1, F1⟩
  case round =>
    clear t1 F1
    obtain ⟨i, n, D, rfl, hi40, hni, t, F⟩ := hrel
    by_cases hlt : i < n1
    · by_cases hlt3 : i < 40
      · obtain ⟨ad, rfl, hbk, o0, hwf⟩ := hI1.at_ hlt
        obtain ⟨c, hc64, hc⟩ := and63 hwf
        obtain ⟨zz, hzz⟩ : ∃ zz, many.getD i 0 = zz := ⟨_, rfl⟩
        rw [hzz] at o0 hc
        have O0 := Lib.hid o0
        have i0 : (0 : Int) ≤ (i : Int) := Int.natCast_nonneg _
        have i1 : (i : Int) < (n1 : Int) := by omega
        have i40 : (i : Int) < 40 := by omega
        clear o0 hwf hzz
        obtain ⟨wo, rfl⟩ : ∃ wo, wo = wr := ⟨_, rfl⟩
        go_wp2_with fail
        go_loopw [12] (fun vk wr => MtI w g b z mb n c vk wr) (fun vk _ => c - (intOf vk).toNat)
        case atStart => exact ⟨0, D, rfl, by omega, t, F⟩
        case round =>
          clear t F
          obtain ⟨k, D, rfl, hk, t, F⟩ := hrel
          have o0 : wr.cell? (ad.add i) = some (.int .u8 zz) := by
            rw [← O0.out]; exact World.cell?_of_block (F.block _ (by rw [block_add]; exact hbk) (fun h => h))
          by_cases hkc : k < c
          · have hkI : (k : Int) < (c : Int) := by omega
            cases hf : full z D with
            | true =>
              go_wp2_with fail
              refine (next_D_full _ g b z mb n D t hf).mono ?_
              rintro e w3 ⟨rfl, f3⟩
              have F3 := F.thenN f3
              have t3 := t.frm f3 (fun h => h) (fun h => h)
              clear t F f3
              go_wp2_with fail
              go_roundw
              case rel => exact ⟨k + 1, D, by go_num, by omega, t3, F3⟩
              case measure => simp [intOf]; omega
            | false =>
              go_wp2_with fail
              refine (next_D _ g b z mb n D t hf).mono ?_
              rintro e w3 ⟨rfl, t3, f3⟩
              have F3 := F.thenG f3 (.inr hg)
              clear t F f3
              go_wp2_with fail
              go_roundw
              case rel => exact ⟨k + 1, _, by go_num, by omega, t3, F3⟩
              case measure => simp [intOf]; omega
          · have hkc2 : k = c := by omega
            subst hkc2
            have hL := opensL_le b D
            have hz3 := t.2.2.2.1
            have hF0 := fst_le D
            have hfst := opensL_first b D
            have hnone := opensL_none b D
            have hlw := t.lt
            have hmem := fun x => opensL_mem b D x
            have hap := nm_ne (b := b) (i := fst D) (k := D.length)
            go_wp2_with fail
            refine (all_D _ g b z mb n D t).mono ?_
            rintro e w4 ⟨v4, rfl, o4, f4, -⟩
            obtain ⟨A4, c4, rfl, ra4⟩ := rdA_of o4
            have F4 := F.thenN f4
            have t4 := t.frm f4 (fun h => h) (fun h => h)
            obtain ⟨x1, hx1⟩ : ∃ x, nm b (fst D) = x := ⟨_, rfl⟩
            obtain ⟨x2, hx2⟩ : ∃ x, nm b D.length = x := ⟨_, rfl⟩
            generalize opensL b D = L at *
            rw [hx1] at hfst hap
            rw [hx2] at hap
            have hLz : (L.length : Int) ≤ z := by omega
            have dA : decide (z < (L.length : Int)) = false := decide_eq_false (by omega)
            have HM := Lib.hid hmem
            clear t F f4 o4 o0 hmem O0
            go_wp2_with fail
            refine (ends_D_is _ g b z mb n _ x1 x2 t4 hx1 hx2).mono ?_
            rintro e w5 ⟨rfl, f5⟩
            have F5 := F4.thenN f5
            have t5 := t4.frm f5 (fun h => h) (fun h => h)
            have ra5 := ra4.frm f5 (fun _ _ _ h => h)
            have hxx : fst D = D.length → x1 = x2 := fun e => by rw [← hx1, ← hx2, e]
            clear t4 F4 f5 ra4 hx1 hx2
            by_cases hFl : fst D < D.length
            · have hx12 := hap hFl (by omega)
              obtain ⟨h0L, hL0⟩ := hfst hFl
              have h0I : (0 : Int) < (L.length : Int) := by omega
              have d1 : (x1 != x2) = true := by simpa using hx12
              have d2 : (x1 == x2) = false := by simpa using hx12
              have d3 : ((L.length : Int) == 0) = false := beq_eq_false_iff_ne.2 (by omega)
              have d4 : (x1 != x1) = false := by simp
              have d5 : decide ((0 : Int) < (L.length : Int)) = true := decide_eq_true h0I
              have RA := Lib.hid ra5
              obtain ⟨ad4, rfl, -, hc0⟩ := ra5 0 h0L
              rw [hL0] at hc0
              have hc0' : w5.cell? ad4 = some (.int .i64 x1) := hc0
              clear hap hfst hnone hL0 hc0 ra5 hxx
              by_cases hio : i < n2
              · obtain ⟨ad2, rfl, hbk2, o2, hwf2⟩ := hI2.at_ hio
                have o2' : w5.cell? (ad2.add i) = some (.int .u16 (order.getD i 0)) := by
                  rw [← o2]; exact World.cell?_of_block (F5.block _ (by rw [block_add]; exact hbk2) (fun h => h))
                obtain ⟨u, hu⟩ : ∃ u, order.getD i 0 = u := ⟨_, rfl⟩
                rw [hu] at o2' hwf2
                obtain ⟨u0, u1⟩ := u16_of hwf2
                obtain ⟨idx, hidx⟩ := Int.eq_ofNat_of_zero_le (show 0 ≤ u.tmod (L.length : Int) from Int.tmod_nonneg _ u0)
                have hidx2 : (idx : Int) < (L.length : Int) := by rw [← hidx]; exact Int.tmod_lt_of_pos _ (by omega)
                have hidx0 : (0 : Int) ≤ (idx : Int) := Int.natCast_nonneg _
                obtain ⟨ad4', e4, -, hcx⟩ := RA.out idx (by omega)
                obtain rfl : ad4 = ad4' := by injection e4
                obtain ⟨i0', k1, k2, k3, k4⟩ := (HM.out (L.getD idx 0)).1 (by rw [List.getD_eq_getElem?_getD, List.getElem?_eq_getElem (by omega)]; exact List.getElem_mem _)
                obtain ⟨x, hx⟩ : ∃ x, L.getD idx 0 = x := ⟨_, rfl⟩
                rw [hx] at hcx k4
                have hioI : (i : Int) < (n2 : Int) := by omega
                have hne0 : ((L.length : Int)) ≠ 0 := by omega
                clear o2 hwf2 hu hx e4
                generalize L.length = m at *
                go_wp2_with fail
                refine (ack_D _ g b z mb n D t5 (by omega) i0' k1 k2 k3).mono ?_
                rintro e w6 ⟨rfl, t6, f6⟩
                have F6 := Frm.thenA F5 f6 hg hmb
                clear t5 F5 f6
                go_wp2_with fail
                go_roundw
                case rel => exact ⟨i + 1, n + 1, _, by go_num, by omega, by omega, t6, F6⟩
                case measure => simp [intOf]; omega
              · have hioI : ¬ ((i : Int) < (n2 : Int)) := by omega
                go_wp2_with fail
                go_roundw
                case rel => exact ⟨i + 1, n, D, by go_num, by omega, by omega, t5, F5⟩
                case measure => simp [intOf]; omega
            · have hFe : fst D = D.length := by omega
              have hLe := hnone hFe
              subst hLe
              have hxe : x1 = x2 := hxx hFe
              subst hxe
              have d1 : (x1 != x1) = false := by simp
              have d2 : (x1 == x1) = true := by simp
              clear hap hfst hnone hxx
              go_wp2_with fail
              go_roundw
              case rel => exact ⟨i + 1, n, D, by go_num, by omega, by omega, t5, F5⟩
              case measure => simp [intOf]; omega
      · obtain ⟨wo, rfl⟩ : ∃ wo, wo = wr := ⟨_, rfl⟩
        have hlw := t.lt
        have hlz := t.2.2.2.1
        have hLL := opensL_le b D
        obtain ⟨L, hL⟩ : ∃ L, opensL b D = L := ⟨_, rfl⟩
        rw [hL] at hLL
        go_wp2_with fail
        refine (all_D _ g b z mb n D t).mono ?_
        rw [hL]
        rintro e w4 ⟨v4, rfl, o4, f4, -⟩
        obtain ⟨A4, c4, rfl, ra4⟩ := rdA_of o4
        have F4 := F.thenN f4
        have t4 := t.frm f4 (fun h => h) (fun h => h)
        obtain ⟨m, hm⟩ : ∃ m, L.length = m := ⟨_, rfl⟩
        rw [hm]
        rw [hm] at hLL
        have hm4 : m ≤ 32768 := by omega
        have hLt : opensL b D = L.take m := by rw [← hm, List.take_length]; exact hL
        clear t F f4 o4 hL hlw hlz hLL
        go_wp2_with fail
        go_loopw [19] (fun vi wr => MtL w g b z mb L A4 vi wr) (fun vi _ => (intOf vi + 1).toNat)
        case atStart => exact ⟨m, n, D, rfl, by omega, by omega, t4, hLt, ra4, F4⟩
        case round =>
          clear t4 hLt ra4 F4
          obtain ⟨q, n, D, rfl, hq, hnq, t, hL, ra, F⟩ := hrel
          by_cases hq0 : q = 0
          · subst hq0
            have hL0 : opensL b D = [] := by rw [hL]; rfl
            have hfe : fst D = D.length := by
              rcases Nat.lt_or_ge (fst D) D.length with h | h
              · have := (opensL_first b D h).1; rw [hL0] at this; exact absurd this (by simp)
              · have := fst_le D; omega
            obtain ⟨x1, hx1⟩ : ∃ x, nm b (fst D) = x := ⟨_, rfl⟩
            have hx2 : nm b D.length = x1 := by rw [← hfe, hx1]
            have hful : full z D = false := by unfold full; rw [hfe]; exact decide_eq_false (by omega)
            have dq : ¬ ((0 : Nat) : Int) - 1 ≥ 0 := by omega
            clear hL ra
            go_wp2_with fail
            refine (ends_D_is _ g b z mb n D x1 x1 t hx1 hx2).mono ?_
            rintro e w5 ⟨rfl, f5⟩
            have F5 := F.thenN f5
            have t5 := t.frm f5 (fun h => h) (fun h => h)
            clear t F f5 hx1 hx2
            go_wp2_with fail
            refine (alive_yes _).mono ?_
            rintro e w6 ⟨rfl, f6⟩
            have F6 := F5.thenN f6
            have t6 := t5.frm f6 (fun h => h) (fun h => h)
            clear t5 F5 f6
            go_wp2_with fail
            refine (all_D _ g b z mb n D t6).mono ?_
            rw [hL0]
            rintro e w7 ⟨v7, rfl, o7, f7, -⟩
            obtain ⟨A7, c7, rfl, -⟩ := rdA_of (L := []) (by exact o7)
            have F7 := F6.thenN f7
            have t7 := t6.frm f7 (fun h => h) (fun h => h)
            clear t6 F6 f7 o7
            go_wp2_with fail
            refine (stalled_D _ g b z mb n D t7).mono ?_
            rintro e w8 ⟨rfl, f8⟩
            rw [hful]
            have F8 := F7.thenN f8
            clear t7 F7 f8
            go_wp2_with fail
            go_ret
            exact ⟨rfl, F8⟩
          · obtain ⟨q, rfl⟩ : ∃ q', q = q' + 1 := ⟨q - 1, by omega⟩
            have hlw := t.lt
            have hql : q < L.length := by omega
            have hLs : opensL b D = L.take q ++ [L.getD q 0] := by
              rw [hL, List.take_succ_eq_append_getElem hql, List.getD_eq_getElem?_getD, List.getElem?_eq_getElem hql]; rfl
            obtain ⟨i0, k1, k2, k3, k4, k5⟩ := opensL_last hlw hLs
            have RA := Lib.hid ra
            obtain ⟨ad4, rfl, -, hc⟩ := ra q hql
            rw [k4] at hc
            have hq1 : (((q + 1 : Nat) : Int) - 1) = (q : Int) := by omega
            have q0 : (0 : Int) ≤ (q : Int) := Int.natCast_nonneg _
            have qm : (q : Int) < (m : Int) := by omega
            have hq2 : q < m := by omega
            rw [hq1]
            clear hL hLs k4 ra
            go_wp2_with fail
            refine (ack_D _ g b z mb n D t (by omega) i0 k1 k2 k3).mono ?_
            rintro e w5 ⟨rfl, t5, f5⟩
            have F5 := Frm.thenA F f5 hg hmb
            have ra5 := RA.out.frm f5 t.apart
            clear t F f5
            go_wp2_with fail
            go_roundw
            case rel => exact ⟨q, n + 1, _, by go_num, by omega, by omega, t5, k5, ra5, F5⟩
            case measure => simp [intOf]
    · obtain ⟨wo, rfl⟩ : ∃ wo, wo = wr := ⟨_, rfl⟩
      have hlw := t.lt
      have hlz := t.2.2.2.1
      have hLL := opensL_le b D
      obtain ⟨L, hL⟩ : ∃ L, opensL b D = L := ⟨_, rfl⟩
      rw [hL] at hLL
      go_wp2_with fail
      refine (all_D _ g b z mb n D t).mono ?_
      rw [hL]
      rintro e w4 ⟨v4, rfl, o4, f4, -⟩
      obtain ⟨A4, c4, rfl, ra4⟩ := rdA_of o4
      have F4 := F.thenN f4
      have t4 := t.frm f4 (fun h => h) (fun h => h)
      obtain ⟨m, hm⟩ : ∃ m, L.length = m := ⟨_, rfl⟩
      rw [hm]
      rw [hm] at hLL
      have hm4 : m ≤ 32768 := by omega
      have hLt : opensL b D = L.take m := by rw [← hm, List.take_length]; exact hL
      clear t F f4 o4 hL hlw hlz hLL
      go_wp2_with fail
      go_loopw [19] (fun vi wr => MtL w g b z mb L A4 vi wr) (fun vi _ => (intOf vi + 1).toNat)
      case atStart => exact ⟨m, n, D, rfl, by omega, by omega, t4, hLt, ra4, F4⟩
      case round =>
        clear t4 hLt ra4 F4
        obtain ⟨q, n, D, rfl, hq, hnq, t, hL, ra, F⟩ := hrel
        by_cases hq0 : q = 0
        · subst hq0
          have hL0 : opensL b D = [] := by rw [hL]; rfl
          have hfe : fst D = D.length := by
            rcases Nat.lt_or_ge (fst D) D.length with h | h
            · have := (opensL_first b D h).1; rw [hL0] at this; exact absurd this (by simp)
            · have := fst_le D; omega
          obtain ⟨x1, hx1⟩ : ∃ x, nm b (fst D) = x := ⟨_, rfl⟩
          have hx2 : nm b D.length = x1 := by rw [← hfe, hx1]
          have hful : full z D = false := by unfold full; rw [hfe]; exact decide_eq_false (by omega)
          have dq : ¬ ((0 : Nat) : Int) - 1 ≥ 0 := by omega
          clear hL ra
          go_wp2_with fail
          refine (ends_D_is _ g b z mb n D x1 x1 t hx1 hx2).mono ?_
          rintro e w5 ⟨rfl, f5⟩
          have F5 := F.thenN f5
          have t5 := t.frm f5 (fun h => h) (fun h => h)
          clear t F f5 hx1 hx2
          go_wp2_with fail
          refine (alive_yes _).mono ?_
          rintro e w6 ⟨rfl, f6⟩
          have F6 := F5.thenN f6
          have t6 := t5.frm f6 (fun h => h) (fun h => h)
          clear t5 F5 f6
          go_wp2_with fail
          refine (all_D _ g b z mb n D t6).mono ?_
          rw [hL0]
          rintro e w7 ⟨v7, rfl, o7, f7, -⟩
          obtain ⟨A7, c7, rfl, -⟩ := rdA_of (L := []) (by exact o7)
          have F7 := F6.thenN f7
          have t7 := t6.frm f7 (fun h => h) (fun h => h)
          clear t6 F6 f7 o7
          go_wp2_with fail
          refine (stalled_D _ g b z mb n D t7).mono ?_
          rintro e w8 ⟨rfl, f8⟩
          rw [hful]
          have F8 := F7.thenN f8
          clear t7 F7 f8
          go_wp2_with fail
          go_ret
          exact ⟨rfl, F8⟩
        · obtain ⟨q, rfl⟩ : ∃ q', q = q' + 1 := ⟨q - 1, by omega⟩
          have hlw := t.lt
          have hql : q < L.length := by omega
          have hLs : opensL b D = L.take q ++ [L.getD q 0] := by
            rw [hL, List.take_succ_eq_append_getElem hql, List.getD_eq_getElem?_getD, List.getElem?_eq_getElem hql]; rfl
          obtain ⟨i0, k1, k2, k3, k4, k5⟩ := opensL_last hlw hLs
          have RA := Lib.hid ra
          obtain ⟨ad4, rfl, -, hc⟩ := ra q hql
          rw [k4] at hc
          have hq1 : (((q + 1 : Nat) : Int) - 1) = (q : Int) := by omega
          have q0 : (0 : Int) ≤ (q : Int) := Int.natCast_nonneg _
          have qm : (q : Int) < (m : Int) := by omega
          have hq2 : q < m := by omega
          rw [hq1]
          clear hL hLs k4 ra
          go_wp2_with fail
          refine (ack_D _ g b z mb n D t (by omega) i0 k1 k2 k3).mono ?_
          rintro e w5 ⟨rfl, t5, f5⟩
          have F5 := Frm.thenA F f5 hg hmb
          have ra5 := RA.out.frm f5 t.apart
          clear t F f5
          go_wp2_with fail
          go_roundw
          case rel => exact ⟨q, n + 1, _, by go_num, by omega, by omega, t5, k5, ra5, F5⟩
          case measure => simp [intOf]
end Go.Proofs.Ythefmklblfjfeaa.A
