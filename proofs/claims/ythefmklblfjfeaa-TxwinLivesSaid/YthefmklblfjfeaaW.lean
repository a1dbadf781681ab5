/- TxwinStalls' walk. -/
import Derived.Test.YthefmklblfjfeaaY
import Derived.Deep.DeepCutAuto
import Derived.Deep.CutBlock
namespace Go.Proofs.Ythefmklblfjfeaa.A
open Go.RowKit Go.Proofs.Ythefmklblfjfeaa.K Go.Proofs.Ythefmklblfjfeaa.N
set_option linter.unusedVariables false
set_option linter.unusedSimpArgs false

/-- p acknowledged, then q that are not. -/
def tw (p q : Nat) : List Bool := List.replicate p true ++ List.replicate q false
theorem tw_len (p q : Nat) : (tw p q).length = p + q := by simp [tw]
theorem tw_getD (p q i : Nat) : (tw p q).getD i false = decide (i < p) := by
  unfold tw
  rw [List.getD_eq_getElem?_getD, List.getElem?_append]
  simp only [List.length_replicate, List.getElem?_replicate]
  by_cases h : i < p
  · simp [h]
  · by_cases h2 : i - p < q <;> simp [h, h2]
theorem tw_fst (p q : Nat) : fst (tw p q) = p := fst_is _ _ (fun i hi => by rw [tw_getD]; simpa using hi) (by rw [tw_getD]; simp)
theorem tw_more (p q : Nat) : tw p q ++ [false] = tw p (q + 1) := by
  unfold tw; rw [List.append_assoc, List.replicate_succ']
theorem tw_set (p q : Nat) : (tw p (q + 1)).set p true = tw (p + 1) q := by
  unfold tw
  rw [List.set_append_right _ _ (by simp)]
  rw [List.length_replicate, Nat.sub_self, List.replicate_succ (n := q), List.set_cons_zero, List.replicate_succ' (n := p), List.append_assoc]
  rfl
theorem tw_full (z : Int) (p q : Nat) : full z (tw p q) = decide (z ≤ (q : Int)) := by
  unfold full
  rw [tw_len, tw_fst]
  congr 1
  apply propext
  omega
theorem full_is {z : Int} {p q : Nat} {t : Bool} (h : decide (z ≤ (q : Int)) = t) : full z (tw p q) = t := by rw [tw_full, h]
theorem nm_tmod {b : Int} {S : Int} (hS : sz b = S) (i : Nat) : (i : Int).tmod S = nm b i := by
  rw [nm_eq, hS, Int.tmod_eq_emod_of_nonneg (by omega)]

theorem and7 {a : Int} (h : (Lit.int .u8 a).wf = true) : ∃ k : Nat, k < 8 ∧ bits .and .u8 a 7 = k := by
  simp only [Lit.wf, Bool.and_eq_true, decide_eq_true_eq] at h
  obtain ⟨h0, h1⟩ := h
  have h1' : a ≤ 255 := h1
  have h0' : 0 ≤ a := h0
  have e : bits .and .u8 a 7 = a % 8 := by
    rw [u8_and a 7 h0' (by omega) (by omega) (by omega), show (7 : Int).toNat = 7 from rfl, nat_mask3]; omega
  exact ⟨(a % 8).toNat, by omega, by rw [e]; omega⟩

def StO (w : World) (g : Nat) (b z : Int) (mb : Nat) (vn vi : Value) (wr : World) : Prop :=
  ∃ r p : Nat, vn = .int .i64 p ∧ vi = .int .i64 r ∧ r ≤ 8 ∧ p ≤ r * 40 ∧ IsW wr g b z mb p (tw p 0) ∧ Frm No w wr
def StI (w : World) (g : Nat) (b z : Int) (mb p : Nat) (vn vk : Value) (wr : World) : Prop :=
  ∃ k : Nat, vn = .int .i64 ((p + k : Nat) : Int) ∧ vk = .int .i64 k ∧ (k : Int) ≤ z ∧ IsW wr g b z mb p (tw p k) ∧ Frm No w wr
def StA (w : World) (g : Nat) (b z : Int) (mb p Z : Nat) (vk : Value) (wr : World) : Prop :=
  ∃ j : Nat, vk = .int .i64 ((p + j : Nat) : Int) ∧ j ≤ Z ∧ IsW wr g b z mb (p + j) (tw (p + j) (Z - j)) ∧ Frm No w wr

set_option maxRecDepth 100000 in
set_option maxHeartbeats 8000000 in
theorem stalls_core (b z a : Int) (ρ : Nat) (w : World) (hmay : mayW b z = true) (hz40 : z ≤ 40) (hρ : ρ < 8) (ha : bits .and .u8 a 7 = ρ) :
    Calls Try.prog 4 #[.int .i64 b, .int .i64 z, .int .u8 a] w fun e w' => e = .returned (.bool true) ∧ Frm No w w' := by
  have hm : (1 ≤ b ∧ b ≤ 16) ∧ 1 ≤ z ∧ 2 * z ≤ sz b := of_decide_eq_true hmay
  obtain ⟨⟨hb1, hb2⟩, hz1, hz2⟩ := hm
  have hS := sz_range ⟨hb1, hb2⟩
  have hsh := wrap_sz ⟨hb1, hb2⟩
  obtain ⟨S, hSe⟩ : ∃ S, sz b = S := ⟨_, rfl⟩
  rw [hSe] at hS hsh hz2
  have HSe := Lib.hid hSe
  obtain ⟨Z, rfl⟩ := Int.eq_ofNat_of_zero_le (show 0 ≤ z by omega)
  clear hSe
  go_enter Try.func4, Try.ntmps4
  go_wp2_with fail
  refine (new_ok b Z _ hmay).mono ?_
  rintro e w1 ⟨g, mb, rfl, hg, hmb, t1, F1⟩
  clear hmay
  go_wp2_with fail
  go_loopw [9, 10] (fun vn vi wr => StO w g b Z mb vn vi wr) (fun _ vi _ => 8 - (intOf vi).toNat)
  case atStart => exact ⟨0, 0, rfl, rfl, by omega, by omega, t1, F1⟩
  case round =>
    clear t1 F1
    obtain ⟨r, p, rfl, rfl, hr8, hp, t, F⟩ := hrel
    by_cases hlt : r < 1 + ρ
    · obtain ⟨wo, rfl⟩ : ∃ wo, wo = wr := ⟨_, rfl⟩
      have hltI : (r : Int) < 1 + (ρ : Int) := by omega
      have dlt : decide ((r : Int) < 1 + (ρ : Int)) = true := decide_eq_true hltI
      go_wp2_with fail
      go_loopw [9, 11] (fun vn vk wr => StI w g b Z mb p vn vk wr) (fun _ vk _ => Z - (intOf vk).toNat)
      case atStart => exact ⟨0, rfl, rfl, by omega, t, F⟩
      case round =>
        clear t F
        obtain ⟨k, rfl, rfl, hk, t, F⟩ := hrel
        by_cases hkz : k < Z
        · have hv := nm_tmod HSe.out (p + k)
          obtain ⟨v, hve⟩ : ∃ v, nm b (p + k) = v := ⟨_, rfl⟩
          rw [hve] at hv
          rw [show ((p + k : Nat) : Int) = (p : Int) + (k : Int) by omega] at hv
          have hvs : nm b (tw p k).length = v := by rw [tw_len, hve]
          have dz : (v != v) = false := by simp
          clear hve
          go_wp2_with fail
          refine (next_D_is _ g b Z mb p _ _ v t (full_is (by simp; omega)) hvs (tw_more p k)).mono ?_
          rintro e w3 ⟨rfl, t3, f3⟩
          have F3 := F.thenG f3 (.inr hg)
          clear t F f3
          go_wp2_with fail
          go_roundw
          case rel => exact ⟨k + 1, by go_num, by go_num, by omega, t3, F3⟩
          case measure => simp [intOf]; omega
        · have hkZ : k = Z := by omega
          subst hkZ
          have eE1 : nm b (fst (tw p k)) = nm b p := by rw [tw_fst]
          have eE2 : nm b (tw p k).length = nm b (p + k) := by rw [tw_len]
          obtain ⟨x1, hx1⟩ : ∃ x, nm b p = x := ⟨_, rfl⟩
          obtain ⟨x2, hx2⟩ : ∃ x, nm b (p + k) = x := ⟨_, rfl⟩
          rw [hx1] at eE1
          rw [hx2] at eE2
          have dx1 : (x1 != x1) = false := by simp
          have dx2 : (x2 != x2) = false := by simp
          have hful : full (k : Int) (tw p k) = true := full_is (by simp)
          clear hx1 hx2
          go_wp2_with fail
          refine (ends_D_is _ g b k mb p _ x1 x2 t eE1 eE2).mono ?_
          rintro e w3 ⟨rfl, f3⟩
          have F3 := F.thenN f3
          have t3 := t.frm f3 (fun h => h) (fun h => h)
          clear t F f3
          go_wp2_with fail
          refine (next_D_full _ g b k mb p _ t3 hful).mono ?_
          rintro e w4 ⟨rfl, f4⟩
          have F4 := F3.thenN f4
          have t4 := t3.frm f4 (fun h => h) (fun h => h)
          clear t3 F3 f4
          go_wp2_with fail
          refine (ends_D_is _ g b k mb p _ x1 x2 t4 eE1 eE2).mono ?_
          rintro e w5 ⟨rfl, f5⟩
          have F5 := F4.thenN f5
          have t5 := t4.frm f5 (fun h => h) (fun h => h)
          clear t4 F4 f5
          go_wp2_with fail
          refine (stalled_D _ g b k mb p _ t5).mono ?_
          rintro e w6 ⟨rfl, f6⟩
          rw [hful]
          have F6 := F5.thenN f6
          have t6 := t5.frm f6 (fun h => h) (fun h => h)
          clear t5 F5 f6
          obtain ⟨wq, rfl⟩ : ∃ wq, wq = wr := ⟨_, rfl⟩
          go_wp2_with fail
          go_loopw [20] (fun vk wr => StA w g b k mb p k vk wr) (fun vk _ => p + k - (intOf vk).toNat)
          case atStart => exact ⟨0, by go_num, by omega, t6, F6⟩
          case round =>
            clear t6 F6 eE1 eE2 dx1 dx2 hful
            obtain ⟨j, rfl, hj, t, F⟩ := hrel
            by_cases hjk : j < k
            · have hv := nm_tmod HSe.out (p + j)
              obtain ⟨v, hve⟩ : ∃ v, nm b (p + j) = v := ⟨_, rfl⟩
              rw [hve] at hv
              rw [show ((p + j : Nat) : Int) = (p : Int) + (j : Int) by omega] at hv
              have hlj : (p : Int) + (j : Int) < (p : Int) + (k : Int) := by omega
              obtain ⟨q, hq⟩ : ∃ q, k - j = q + 1 := ⟨k - j - 1, by omega⟩
              rw [hq] at t
              go_wp2_with fail
              refine (ack_D_is _ g b k mb (p + j) _ (tw (p + j + 1) q) v t (by omega) (p + j) (by rw [tw_fst]; omega) (by rw [tw_len]; omega) (by rw [tw_getD]; simp) hve (tw_set _ _)).mono ?_
              rintro e w7 ⟨rfl, t7, f7⟩
              have F7 := Frm.thenA F f7 hg hmb
              have hq2 : k - (j + 1) = q := by omega
              clear t F f7
              go_wp2_with fail
              go_roundw
              case rel => exact ⟨j + 1, by go_num, by omega, by rw [hq2]; exact t7, F7⟩
              case measure => simp [intOf]; omega
            · have hjk2 : j = k := by omega
              subst hjk2
              rw [Nat.sub_self] at t
              have hlj : ¬ ((p : Int) + (j : Int) < (p : Int) + (j : Int)) := by omega
              go_wp2_with fail
              go_roundw
              case rel => exact ⟨r + 1, p + j, by go_num, by go_num, by omega, by omega, t, F⟩
              case measure => simp [intOf]; omega
    · go_wp2_with fail
      refine (alive_yes _).mono ?_
      rintro e w3 ⟨rfl, f3⟩
      have F3 := F.thenN f3
      have t3 := t.frm f3 (fun h => h) (fun h => h)
      clear t F f3
      go_wp2_with fail
      refine (stalled_D _ g b Z mb p _ t3).mono ?_
      rintro e w4 ⟨rfl, f4⟩
      rw [show full (Z : Int) (tw p 0) = false from full_is (by simp; omega)]
      have F4 := F3.thenN f4
      have t4 := t3.frm f4 (fun h => h) (fun h => h)
      clear t3 F3 f4
      go_wp2_with fail
      refine (all_D _ g b Z mb p _ t4).mono ?_
      rintro e w5 ⟨v5, rfl, o5, f5, -⟩
      rw [opensL_none b (tw p 0) (by rw [tw_fst, tw_len]; omega)] at o5
      obtain ⟨A5, c5, rfl, -⟩ := own_cells (L := []) (by exact o5)
      have F5 := F4.thenN f5
      go_wp2_with fail
      go_ret
      exact ⟨rfl, F5⟩
end Go.Proofs.Ythefmklblfjfeaa.A
