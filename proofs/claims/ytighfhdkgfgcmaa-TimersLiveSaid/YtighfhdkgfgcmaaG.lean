/- TimersOnce's walk. -/
import Derived.Test.YtighfhdkgfgcmaaF
import Derived.Deep.DeepCutAuto
import Derived.Deep.CutBlock
namespace Go.Proofs.Ytighfhdkgfgcmaa.A
open Go.RowKit Go.Proofs.Ytighfhdkgfgcmaa.K Go.Proofs.Ytighfhdkgfgcmaa.N
set_option linter.unusedVariables false
set_option linter.unusedSimpArgs false

theorem tickO_sorted (L : List Int) {m : Nat} (h0 : 0 < m) (hm : m < (tickO L).length) : (tickO L).getD (m - 1) 0 < (tickO L).getD m 0 := by
  have hp : (tickO L).Pairwise (· < ·) := List.Pairwise.sublist List.filter_sublist List.pairwise_lt_range
  rw [List.getD_eq_getElem?_getD, List.getD_eq_getElem?_getD, List.getElem?_eq_getElem (by omega), List.getElem?_eq_getElem hm]
  exact List.pairwise_iff_getElem.1 hp (m - 1) m (by omega) hm (by omega)
theorem tickO_mem (L : List Int) {k : Nat} (hk : k < 8) : k ∈ tickO L ↔ L.getD k 0 = 1 := by simp [tickO, hk]
theorem tickO_len (L : List Int) : (tickO L).length ≤ 8 := by
  have := List.length_filter_le (fun i => decide (L.getD i 0 = 1)) (List.range 8)
  simpa [tickO] using this
theorem tickO_lt (L : List Int) : ∀ i ∈ tickO L, i < 8 := fun i hi => by
  simp only [tickO, List.mem_filter, List.mem_range] at hi; exact hi.1
theorem take_mem_succ (l : List Nat) (k m : Nat) (hm : m < l.length) : decide (k ∈ l.take (m + 1)) = (decide (k ∈ l.take m) || ((l.getD m 0 : Int) == (k : Int))) := by
  rw [List.take_succ_eq_append_getElem hm, List.getD_eq_getElem?_getD, List.getElem?_eq_getElem hm]
  simp only [List.mem_append, List.mem_singleton, Option.getD_some, Bool.decide_or]
  congr 1
  rw [Bool.eq_iff_iff]
  simp only [decide_eq_true_eq, beq_iff_eq]
  omega

theorem left_is (w : World) (g : Nat) (L : List Int) (k : Nat) (V : Int) (h : IsT w g true L) (hk : k < 8) (hv : L.getD k 0 = V) : Calls Try.prog 10 #[.pointer (some ⟨g, 0, none⟩), .int .i64 k] w fun e w' => e = .returned (.int .i64 V) ∧ w = w' := hv ▸ left_ok w g L k h hk

/-- At the head of the loop over the calls: a of the ticks were, and timer k has n - a left. -/
def OnceRel (w : World) (g n k : Nat) (va vj : Value) (wr : World) : Prop :=
  ∃ (a j : Nat) (L : List Int), va = .int .i64 a ∧ vj = .int .i64 j ∧ j ≤ 300 ∧ a ≤ j ∧ IsT wr g true L ∧ Fit L ∧ L.getD k 0 = (if a < n then (n : Int) - a else 0) ∧ Frm No w wr

/-- What a tick told, in the loop over it. -/
def ToldRel (w wq : World) (g k : Nat) (L2 : List Int) (O : List Nat) (vt vm : Value) (w' : World) : Prop :=
  ∃ m : Nat, vm = .int .i64 m ∧ m ≤ O.length ∧ vt = .bool (decide (k ∈ O.take m)) ∧ IsT w' g true L2 ∧ Frm No w w' ∧ ∀ p, w'.cell? p = wq.cell? p

set_option maxRecDepth 100000 in
set_option maxHeartbeats 8000000 in
theorem once_core (n k : Nat) (hn : 1 ≤ n) (hn2 : n ≤ 64) (hk : k < 8) (a b : Int) (ha : bits .and .u8 a 7 = k) (hb : bits .and .u8 b 63 = (n : Int) - 1) (A : Option Addr) (len c : Nat) (ops : List TOp) (w : World) (hI : IsOps w A len ops) :
    Calls Try.prog 3 #[.int .u8 a, .int .u8 b, .slice A len c] w fun e w' => e = .returned (.bool true) ∧ Frm No w w' := by
  have hn9 : len ≤ 9223372036854775807 := hI.2.1
  go_enter Try.func3, Try.ntmps3
  go_wp2_with fail
  refine (new_ok _).mono ?_
  rintro e w1 ⟨rfl, t1, f1⟩
  go_wp2_with fail
  rw [show (1 + ((n : Int) - 1)) = (n : Int) by omega]
  refine (start_ok _ w.heap.size _ k n t1 hk (by omega) (by omega)).mono ?_
  rintro e w2 ⟨rfl, t2, f2⟩
  have g2 := f1.thenG f2 (.inr (Nat.le_refl _))
  have hg : (([0, 0, 0, 0, 0, 0, 0, 0] : List Int).set k n).getD k 0 = if 0 < n then (n : Int) - (0 : Nat) else 0 := by
    rw [getD_set _ _ _ _ (by simp; omega), if_pos rfl, if_pos (by omega)]; omega
  have hfit := fit_set fit_zero k n (by omega) (by omega)
  generalize ([0, 0, 0, 0, 0, 0, 0, 0] : List Int).set k n = L0 at *
  have HG := Lib.hid hg
  clear f1 f2 t1 ha hb hg
  go_wp2_with fail
  go_loopw [10, 11] (fun va vj wr => OnceRel w w.heap.size n k va vj wr) (fun _ vj _ => 300 - (intOf vj).toNat)
  case atStart => exact ⟨0, 0, L0, rfl, rfl, by omega, by omega, t2, hfit, HG.out, g2⟩
  case round =>
    clear HG t2 hfit g2
    obtain ⟨at_, j, L, rfl, rfl, hj, haj, ht, hfit, hleft, hF⟩ := hrel
    by_cases hlt : j < len
    · by_cases hlt3 : j < 300
      · have hlo : j < ops.length := by rw [hI.1]; exact hlt
        obtain ⟨ad, rfl, hbk, o0, o1, o2⟩ := hI.2.2 j _ (List.getElem?_eq_getElem hlo)
        obtain ⟨⟨kd, oi, on⟩, ho⟩ : ∃ o, ops[j] = o := ⟨_, rfl⟩
        rw [ho] at o0 o1 o2
        simp only at o0 o1 o2
        have tr : ∀ i v, w.cell? (ad.add i) = some v → wr.cell? (ad.add i) = some v := fun i v h => by
          rw [← h]; exact World.cell?_of_block (hF.block _ (by rw [block_add]; exact hbk) (fun h => h))
        have o0' := tr _ _ o0
        have o1' := tr _ _ o1
        have o2' := tr _ _ o2
        rw [add_spell _ _ _ (by omega)] at o1' o2'
        obtain ⟨go, hgo⟩ : ∃ go, wr.heap.size = go := ⟨_, rfl⟩
        have hO : Blk (wr.alloc (.cells #[.int .i64 kd, .int .i64 oi, .int .i64 on] 28)) go #[.int .i64 kd, .int .i64 oi, .int .i64 on] 28 := by rw [← hgo]; exact Blk.new _ _ _
        have ht1 := ht.alloc (.cells #[.int .i64 kd, .int .i64 oi, .int .i64 on] 28)
        have hF1 := hF.alloc (.cells #[.int .i64 kd, .int .i64 oi, .int .i64 on] 28)
        have HL := Lib.hid hleft
        clear o0 o1 o2 ho tr ht hF hleft
        by_cases h2 : kd = 2
        · have d2 : (kd == 2) = true := by simpa using h2
          have d0 : (kd == 0) = false := by rw [h2]; rfl
          have d1 : (kd == 1) = false := by rw [h2]; rfl
          have d3 : (kd != 2) = false := by rw [h2]; rfl
          clear h2
          go_wp2_with fail
          refine (tick_ok _ w.heap.size L ht1 (fun q => (hfit.2 q).2)).mono ?_
          rintro e w4 ⟨v, rfl, ov, f4, t4⟩
          obtain ⟨A4, c4, rfl, hcl⟩ := handed_cells ov
          have g4 := hF1.thenG f4 (.inr (Nat.le_refl _))
          have hs := fun m => @tickO_sorted L m
          have hm := tickO_mem L hk
          have hlen := tickO_len L
          have hfit2 := fit_tick hfit
          have hnew := tickL_getD L k
          have hlk := hfit.2 k
          generalize tickO L = O at *
          generalize tickL L = L2 at *
          have HS := Lib.hid hs
          have HM := Lib.hid hm
          have HN := Lib.hid hnew
          have HC := Lib.hid hcl
          clear ov hF1 f4 hO ht1 o0' o1' o2' hs hm hnew hcl
          obtain ⟨wo, rfl⟩ : ∃ wo, wo = wr := ⟨_, rfl⟩
          go_wp2_with fail
          go_loopw [14, 15] (fun vt vm w' => ToldRel w w4 w.heap.size k L2 O vt vm w') (fun _ vm _ => O.length - (intOf vm).toNat)
          case atStart => exact ⟨0, rfl, by omega, by simp, t4, g4, fun _ => rfl⟩
          case round =>
            clear t4 g4
            obtain ⟨m, rfl, hmO, rfl, t5, g5, hsame⟩ := hrel
            have HSM := Lib.hid hsame
            clear hsame
            by_cases hmlt : m < O.length
            · obtain ⟨ad4, rfl, -, hc1⟩ := HC.out m hmlt
              have hc1' := (HSM.out _).trans hc1
              have hsuc := take_mem_succ O k m hmlt
              obtain ⟨z, hz⟩ : ∃ z, O.getD m 0 = z := ⟨_, rfl⟩
              rw [hz] at hc1' hsuc
              obtain ⟨q, hq⟩ : ∃ q, decide (k ∈ O.take m) = q := ⟨_, rfl⟩
              rw [hq] at hsuc ⊢
              have HQ := Lib.hid hsuc
              have i0 : (0 : Int) ≤ (m : Int) := Int.natCast_nonneg _
              have i1 : (m : Int) < (O.length : Int) := by omega
              by_cases hm0 : m = 0
              · subst hm0
                have dg : decide ((0 : Int) < 0) = false := by decide
                have hc1'' : wr.cell? ad4 = some (.int .i64 z) := hc1'
                clear hc1 hc1' hsuc hz hq
                cases q
                · go_wp2_with fail
                  go_quiet (fail)
                  go_wp2_with fail
                  go_roundw
                  case rel => exact ⟨1, by go_num, by omega, by rw [HQ.out]; rfl, ⟨t5.1.drewN _, t5.2⟩, g5.drewN _, HSM.out⟩
                  case measure => simp [intOf]; omega
                · go_wp2_with fail
                  go_quiet (fail)
                  go_wp2_with fail
                  go_roundw
                  case rel => exact ⟨1, by go_num, by omega, by rw [HQ.out]; rfl, ⟨t5.1.drewN _, t5.2⟩, g5.drewN _, HSM.out⟩
                  case measure => simp [intOf]; omega
              · obtain ⟨ad5, e5, -, hc0⟩ := HC.out (m - 1) (by omega)
                obtain rfl : ad4 = ad5 := by injection e5
                have hc0' := (HSM.out _).trans hc0
                have hlt0 := HS.out m (by omega) hmlt
                obtain ⟨y, hy⟩ : ∃ y, O.getD (m - 1) 0 = y := ⟨_, rfl⟩
                rw [hy] at hc0' hlt0
                rw [hz] at hlt0
                have hyz : (y : Int) < (z : Int) := by omega
                have hm1 : (0 : Int) < (m : Int) := by omega
                have hm4 : 0 < m := by omega
                have hm2 : (0 : Int) ≤ (m : Int) - 1 := by omega
                have hm3 : (m : Int) - 1 < (O.length : Int) := by omega
                clear hc1 hsuc hz hq hc0 hy hlt0 e5
                cases q
                · go_wp2_with fail
                  go_quiet (fail)
                  go_wp2_with fail
                  go_roundw
                  case rel => exact ⟨m + 1, by go_num, by omega, by rw [HQ.out]; rfl, ⟨t5.1.drewN _, t5.2⟩, g5.drewN _, HSM.out⟩
                  case measure => simp [intOf]; omega
                · go_wp2_with fail
                  go_quiet (fail)
                  go_wp2_with fail
                  go_roundw
                  case rel => exact ⟨m + 1, by go_num, by omega, by rw [HQ.out]; rfl, ⟨t5.1.drewN _, t5.2⟩, g5.drewN _, HSM.out⟩
                  case measure => simp [intOf]; omega
            · have hmO2 : m = O.length := by omega
              have hlv := HL.out
              have hnv := HN.out
              have hmv := HM.out
              rw [hmO2, List.take_length]
              rcases Nat.lt_trichotomy (at_ + 1) n with hc | hc | hc
              · have hV : L2.getD k 0 = (n : Int) - ((at_ : Int) + 1) := by
                  rw [hnv, hlv, if_pos (show at_ < n by omega), if_pos (by omega)]; omega
                have hto : decide (k ∈ O) = false := by
                  rw [decide_eq_false_iff_not, hmv, hlv, if_pos (show at_ < n by omega)]; omega
                have de : ((at_ : Int) + 1 == (n : Int)) = false := by simp; omega
                rw [hto]
                have HV := Lib.hid hV
                clear hlv hnv hmv hV hto HL HN HM hlk hmO2
                go_wp2_with fail
                refine (left_is _ w.heap.size L2 k _ t5 hk HV.out).mono ?_
                rintro e w6 ⟨rfl, rfl⟩
                go_wp2_with fail
                go_roundw
                case rel => exact ⟨at_ + 1, j + 1, L2, by go_num, by go_num, by omega, by omega, t5, hfit2, by rw [HV.out, if_pos (show at_ + 1 < n by omega)]; omega, g5⟩
                case measure => simp [intOf]; omega
              · have hV : L2.getD k 0 = 0 := by
                  rw [hnv, hlv, if_pos (show at_ < n by omega), if_pos (by omega)]; omega
                have hto : decide (k ∈ O) = true := by
                  rw [decide_eq_true_iff, hmv, hlv, if_pos (show at_ < n by omega)]; omega
                have de : ((at_ : Int) + 1 == (n : Int)) = true := by simp; omega
                have dz : ¬ ((n : Int) - ((at_ : Int) + 1) < 0) := by omega
                have dz2 : ((0 : Int) != (n : Int) - ((at_ : Int) + 1)) = false := by simp; omega
                rw [hto]
                have HV := Lib.hid hV
                have HCC := Lib.hid hc
                clear hlv hnv hmv hV hto HL HN HM hlk hmO2 hc
                go_wp2_with fail
                refine (left_is _ w.heap.size L2 k _ t5 hk HV.out).mono ?_
                rintro e w6 ⟨rfl, rfl⟩
                go_wp2_with fail
                go_roundw
                case rel => exact ⟨at_ + 1, j + 1, L2, by go_num, by go_num, by omega, by omega, t5, hfit2, by rw [HV.out, if_neg (show ¬ at_ + 1 < n by have := HCC.out; omega)], g5⟩
                case measure => simp [intOf]; omega
              · have hV : L2.getD k 0 = 0 := by
                  rw [hnv, hlv, if_neg (show ¬ at_ < n by omega)]; rfl
                have hto : decide (k ∈ O) = false := by
                  rw [decide_eq_false_iff_not, hmv, hlv, if_neg (show ¬ at_ < n by omega)]; omega
                have de : ((at_ : Int) + 1 == (n : Int)) = false := by simp; omega
                rw [hto]
                have HV := Lib.hid hV
                clear hlv hnv hmv hV hto HL HN HM hlk hmO2
                go_wp2_with fail
                refine (left_is _ w.heap.size L2 k _ t5 hk HV.out).mono ?_
                rintro e w6 ⟨rfl, rfl⟩
                go_wp2_with fail
                go_roundw
                case rel => exact ⟨at_ + 1, j + 1, L2, by go_num, by go_num, by omega, by omega, t5, hfit2, by rw [HV.out, if_neg (show ¬ at_ + 1 < n by omega)], g5⟩
                case measure => simp [intOf]; omega
        · have d3 : (kd != 2) = true := by simpa using h2
          have D2 := Lib.hid h2
          clear h2
          by_cases h0 : kd = 0
          · have d0 : (kd == 0) = true := by simpa using h0
            have d1 : (kd == 1) = false := by rw [h0]; rfl
            clear h0
            by_cases hik : oi = k
            · have dk : (oi != (k : Int)) = false := by simpa using hik
              clear hik
              go_wp2_with fail
              go_roundw
              case rel => exact ⟨at_, j + 1, L, rfl, by go_num, by omega, by omega, ht1, hfit, HL.out, hF1⟩
              case measure => simp [intOf]; omega
            · have dk : (oi != (k : Int)) = true := by simpa using hik
              have HK := Lib.hid hik
              clear hik
              go_wp2_with fail
              refine (start_any _ w.heap.size L oi on ht1).mono ?_
              rintro e w4 ⟨rfl, t4, f4⟩
              have hO4 := f4.blk hO (Blk.ne hO ht1.1 (by decide))
              have c0 : w4.cell? ⟨go, 0, none⟩ = some (.int .i64 kd) := hO4.cell 0
              have g4 := hF1.thenG f4 (.inr (Nat.le_refl _))
              clear hO hF1 f4 o0' o1' o2'
              go_wp2_with fail
              go_roundw
              case rel => exact ⟨at_, j + 1, _, rfl, by go_num, by omega, by omega, t4, fit_start hfit _ _, by rw [start_other hfit.1 HK.out]; exact HL.out, g4⟩
              case measure => simp [intOf]; omega
          · have d0 : (kd == 0) = false := by simpa using h0
            clear h0
            by_cases h1 : kd = 1
            · have d1 : (kd == 1) = true := by simpa using h1
              clear h1
              by_cases hik : oi = k
              · have dk : (oi != (k : Int)) = false := by simpa using hik
                clear hik
                go_wp2_with fail
                go_roundw
                case rel => exact ⟨at_, j + 1, L, rfl, by go_num, by omega, by omega, ht1, hfit, HL.out, hF1⟩
                case measure => simp [intOf]; omega
              · have dk : (oi != (k : Int)) = true := by simpa using hik
                have HK := Lib.hid hik
                clear hik
                go_wp2_with fail
                refine (stop_any _ w.heap.size L oi ht1).mono ?_
                rintro e w4 ⟨rfl, t4, f4⟩
                have hO4 := f4.blk hO (Blk.ne hO ht1.1 (by decide))
                have c0 : w4.cell? ⟨go, 0, none⟩ = some (.int .i64 kd) := hO4.cell 0
                have g4 := hF1.thenG f4 (.inr (Nat.le_refl _))
                clear hO hF1 f4 o0' o1' o2'
                go_wp2_with fail
                go_roundw
                case rel => exact ⟨at_, j + 1, _, rfl, by go_num, by omega, by omega, t4, fit_stop hfit _, by rw [stop_other hfit.1 HK.out]; exact HL.out, g4⟩
                case measure => simp [intOf]; omega
            · have d1 : (kd == 1) = false := by simpa using h1
              clear h1
              go_wp2_with fail
              go_roundw
              case rel => exact ⟨at_, j + 1, L, rfl, by go_num, by omega, by omega, ht1, hfit, HL.out, hF1⟩
              case measure => simp [intOf]; omega
      · go_wp2_with fail
        refine (alive_yes _).mono ?_
        rintro e w4 ⟨rfl, f4⟩
        go_wp2_with fail
        go_ret
        exact ⟨rfl, hF.thenN f4⟩
    · go_wp2_with fail
      refine (alive_yes _).mono ?_
      rintro e w4 ⟨rfl, f4⟩
      go_wp2_with fail
      go_ret
      exact ⟨rfl, hF.thenN f4⟩
end Go.Proofs.Ytighfhdkgfgcmaa.A
