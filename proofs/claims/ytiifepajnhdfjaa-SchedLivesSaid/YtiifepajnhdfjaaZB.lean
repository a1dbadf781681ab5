/- The document's ask; want. -/
import Derived.Test.YtiifepajnhdfjaaZA
namespace Go.Proofs.Ytiifepajnhdfjaa.A
open Go.RowKit Go.Proofs.Ytiifepajnhdfjaa.K
set_option linter.unusedVariables false
set_option linter.unusedSimpArgs false

def farAt (W : List Wn) (j : Nat) : Bool := decide ((W.getD j (0, 0)).2 < 0 ∨ 1048576 < (W.getD j (0, 0)).2)
def nonAt (U : List US) (W : List Wn) (j : Nat) : Bool := decide (fiV U (W.getD j (0, 0)).1 < 0)
theorem any_hit {P : Nat → Bool} {n i : Nat} (hi : i < n) (h : P i = true) : (List.range n).any P = true := by
  rw [List.any_eq_true]; exact ⟨i, List.mem_range.2 hi, h⟩
theorem any_more {P : Nat → Bool} {i : Nat} (h : (List.range i).any P = false) (hi : P i = false) : (List.range (i + 1)).any P = false := by
  rw [List.range_succ, List.any_append, h]; simp [hi]
theorem RdW.at_ {w : World} {A : Option Addr} {L : List Wn} (h : RdW w A L) {j : Nat} (hj : j < L.length) {p q : Int} (hp : L.getD j (0, 0) = (p, q)) : ∃ ad, A = some ad ∧ w.cell? (ad.add (j * 2)) = some (.int .i64 p) ∧ w.cell? ⟨(ad.add (j * 2)).block, (ad.add (j * 2)).off + 1, none⟩ = some (.int .i64 q) := by
  obtain ⟨ad, e, _, h0, h1⟩ := h j hj
  rw [hp] at h0 h1
  exact ⟨ad, e, h0, h1⟩

set_option maxRecDepth 100000 in
set_option maxHeartbeats 8000000 in
theorem rask_any (w : World) (B g : Nat) (U : List US) (t : Int) (A : Option Addr) (n c : Nat) (W : List Wn) (h : IsR w B g U) (hW : RdW w A W) (hn : W.length = n) (hn2 : n ≤ 1000) :
    Calls Try.prog 24 #[.pointer (some ⟨g, 0, none⟩), .int .i64 t, .slice A n c] w fun e w' => e = .returned (.int .i64 (askE U t W)) ∧ Frm No w w' := by
  obtain ⟨r, hr⟩ : ∃ r, askE U t W = r := ⟨_, rfl⟩
  rw [hr]
  unfold askE at hr
  have n9 : (n : Int) ≤ 1000 := by omega
  by_cases ht : t < 0 ∨ 65536 < t
  · rw [if_pos ht] at hr
    subst hr
    clear h hW
    by_cases ht1 : t < 0
    · go_enter Try.func24, Try.ntmps24
      go_wp2_with fail
      go_ret
      exact ⟨rfl, Frm.refl _ _⟩
    · have ht2 : 65536 < t := by omega
      go_enter Try.func24, Try.ntmps24
      go_wp2_with fail
      go_ret
      exact ⟨rfl, Frm.refl _ _⟩
  · rw [if_neg ht] at hr
    have ht1 : ¬ t < 0 := by omega
    have ht2 : ¬ 65536 < t := by omega
    clear ht
    have HR := Lib.hid hr
    have HW := Lib.hid hW
    have HS := Lib.hid h
    have HN := Lib.hid hn
    clear hr hW h hn
    go_enter Try.func24, Try.ntmps24
    go_wp2_with fail
    go_loop [7] (fun vi => ∃ i : Nat, vi = .int .i64 i ∧ i ≤ n ∧ (List.range i).any (farAt W) = false) (fun vi => n - (intOf vi).toNat)
    case atStart => exact ⟨0, rfl, by omega, rfl⟩
    case round =>
      obtain ⟨i, rfl, hi, hno⟩ := hrel
      have i0 : (0 : Int) ≤ (i : Int) := Int.natCast_nonneg _
      have HNO := Lib.hid hno
      clear hno
      by_cases hlt : i < n
      · have i1 : (i : Int) < (n : Int) := by omega
        obtain ⟨⟨p, q⟩, hp⟩ : ∃ u, W.getD i (0, 0) = u := ⟨_, rfl⟩
        obtain ⟨ad, rfl, k0, k1⟩ := HW.out.at_ (j := i) (by rw [HN.out]; exact hlt) hp
        by_cases hf : q < 0 ∨ 1048576 < q
        · have hfa : farB W = true := any_hit (P := farAt W) (i := i) (by rw [HN.out]; exact hlt) (by unfold farAt; rw [hp]; exact decide_eq_true hf)
          have hr := HR.out
          rw [if_pos hfa] at hr
          subst hr
          clear hfa hp
          by_cases hq : q < 0
          · go_wp2_with fail
            go_ret
            exact ⟨rfl, Frm.refl _ _⟩
          · have hq2 : 1048576 < q := by omega
            go_wp2_with fail
            go_ret
            exact ⟨rfl, Frm.refl _ _⟩
        · have hfa : farAt W i = false := by unfold farAt; rw [hp]; exact decide_eq_false hf
          have hq : ¬ q < 0 := by omega
          have hq2 : ¬ 1048576 < q := by omega
          have HF := Lib.hid hfa
          clear hfa hp hf
          go_wp2_with fail
          go_round
          case rel => exact ⟨i + 1, by go_num, by omega, any_more HNO.out HF.out⟩
          case measure => simp [intOf]; omega
      · have i1 : ¬ (i : Int) < (n : Int) := by omega
        have hin : i = n := by omega
        have hfa : farB W = false := by unfold farB; rw [HN.out, ← hin]; exact HNO.out
        have hr := HR.out
        rw [hfa, if_neg (by decide)] at hr
        have HR2 := Lib.hid hr
        clear hr hfa hin
        go_wp2_with fail
        go_loop [8] (fun vi => ∃ i : Nat, vi = .int .i64 i ∧ i ≤ n ∧ (List.range i).any (nonAt U W) = false) (fun vi => n - (intOf vi).toNat)
        case atStart => exact ⟨0, rfl, by omega, rfl⟩
        case round =>
          obtain ⟨j, rfl, hj, hno⟩ := hrel
          have j0 : (0 : Int) ≤ (j : Int) := Int.natCast_nonneg _
          have HNO2 := Lib.hid hno
          clear hno
          by_cases hjt : j < n
          · have j1 : (j : Int) < (n : Int) := by omega
            obtain ⟨⟨p, q⟩, hp⟩ : ∃ u, W.getD j (0, 0) = u := ⟨_, rfl⟩
            obtain ⟨ad, rfl, k0, k1⟩ := HW.out.at_ (j := j) (by rw [HN.out]; exact hjt) hp
            have hfd := rfind_any w B g U p HS.out
            by_cases hf : fiV U p < 0
            · have hfa : nonB U W = true := any_hit (P := nonAt U W) (i := j) (by rw [HN.out]; exact hjt) (by unfold nonAt; rw [hp]; exact decide_eq_true hf)
              have hr := HR2.out
              rw [if_pos hfa] at hr
              subst hr
              clear hfa hp
              obtain ⟨f, hfe⟩ : ∃ f, fiV U p = f := ⟨_, rfl⟩
              rw [hfe] at hfd hf
              clear hfe
              go_wp2_with fail
              refine hfd.mono ?_
              rintro e w1 ⟨rfl, rfl⟩
              go_wp2_with fail
              go_ret
              exact ⟨rfl, Frm.refl _ _⟩
            · have hfa : nonAt U W j = false := by unfold nonAt; rw [hp]; exact decide_eq_false hf
              have HF := Lib.hid hfa
              obtain ⟨f, hfe⟩ : ∃ f, fiV U p = f := ⟨_, rfl⟩
              rw [hfe] at hfd hf
              clear hfa hp hfe
              go_wp2_with fail
              refine hfd.mono ?_
              rintro e w1 ⟨rfl, rfl⟩
              go_wp2_with fail
              go_round
              case rel => exact ⟨j + 1, by go_num, by omega, any_more HNO2.out HF.out⟩
              case measure => simp [intOf]; omega
          · have j1 : ¬ (j : Int) < (n : Int) := by omega
            have hin : j = n := by omega
            have hfa : nonB U W = false := by unfold nonB; rw [HN.out, ← hin]; exact HNO2.out
            have hr := HR2.out
            rw [hfa, if_neg (by decide)] at hr
            have HR3 := Lib.hid hr
            clear hr hfa hin
            go_wp2_with fail
            go_loopw [9] (fun vi wr => ∃ i : Nat, vi = .int .i64 i ∧ i ≤ n ∧ (List.range i).any (dupAt W) = false ∧ Frm No w wr) (fun vi _ => n - (intOf vi).toNat)
            case atStart => exact ⟨0, rfl, by omega, rfl, Frm.refl _ _⟩
            case round =>
              obtain ⟨a, rfl, ha, hno, F⟩ := hrel
              have a0 : (0 : Int) ≤ (a : Int) := Int.natCast_nonneg _
              have HNO3 := Lib.hid hno
              clear hno
              by_cases hat : a < n
              · have a1 : (a : Int) < (n : Int) := by omega
                obtain ⟨wo, rfl⟩ : ∃ wo, wo = wr := ⟨_, rfl⟩
                go_wp2_with fail
                go_loopw [10] (fun vk wr => ∃ k : Nat, vk = .int .i64 k ∧ k ≤ a ∧ (List.range k).any (fun j => (W.getD j (0, 0)).1 == (W.getD a (0, 0)).1) = false ∧ Frm No w wr) (fun vk _ => a - (intOf vk).toNat)
                case atStart => exact ⟨0, rfl, by omega, rfl, F⟩
                case round =>
                  clear F
                  obtain ⟨k, rfl, hk, hno, F⟩ := hrel
                  have q0 : (0 : Int) ≤ (k : Int) := Int.natCast_nonneg _
                  have HNO4 := Lib.hid hno
                  clear hno
                  by_cases hka : k < a
                  · have q1 : (k : Int) < (a : Int) := by omega
                    have q2 : (k : Int) < (n : Int) := by omega
                    obtain ⟨⟨p, q⟩, hp⟩ : ∃ u, W.getD a (0, 0) = u := ⟨_, rfl⟩
                    obtain ⟨⟨p', q'⟩, hp'⟩ : ∃ u, W.getD k (0, 0) = u := ⟨_, rfl⟩
                    obtain ⟨ad, rfl, k0, k1⟩ := (HW.out.frmN F).at_ (j := a) (by rw [HN.out]; exact hat) hp
                    obtain ⟨ad', e, k2, k3⟩ := (HW.out.frmN F).at_ (j := k) (by rw [HN.out]; omega) hp'
                    injection e with e
                    subst e
                    have FX := Lib.hid F
                    by_cases hpp : p' = p
                    · have hd : dupB W = true := any_hit (P := dupAt W) (i := a) (by rw [HN.out]; exact hat) (any_hit (i := k) hka (by rw [hp, hp']; exact beq_iff_eq.2 hpp))
                      have hr := HR3.out
                      rw [if_pos hd] at hr
                      subst hr
                      subst hpp
                      clear hd hp hp' F
                      go_wp2_with fail
                      go_quiet (fail)
                      go_wp2_with fail
                      go_ret
                      exact ⟨rfl, FX.out.drewN _⟩
                    · have hpf : (p' == p) = false := beq_eq_false_iff_ne.2 hpp
                      have hpe : ((W.getD k (0, 0)).1 == (W.getD a (0, 0)).1) = false := by rw [hp, hp']; exact hpf
                      have HPE := Lib.hid hpe
                      clear hp hp' F hpe hpp
                      go_wp2_with fail
                      go_quiet (fail)
                      go_wp2_with fail
                      go_roundw
                      case rel => exact ⟨k + 1, by go_num, by omega, any_more HNO4.out HPE.out, FX.out.drewN _⟩
                      case measure => simp [intOf]; omega
                  · have q1 : ¬ (k : Int) < (a : Int) := by omega
                    have hka2 : k = a := by omega
                    have hda : dupAt W a = false := by unfold dupAt; rw [← hka2]; rw [hka2] at HNO4 ⊢; exact HNO4.out
                    have HD := Lib.hid hda
                    clear hda hka2
                    go_wp2_with fail
                    go_roundw
                    case rel => exact ⟨a + 1, by go_num, by omega, any_more HNO3.out HD.out, F⟩
                    case measure => simp [intOf]; omega
              · have a1 : ¬ (a : Int) < (n : Int) := by omega
                have hin : a = n := by omega
                have hd : dupB W = false := by unfold dupB; rw [HN.out, ← hin]; exact HNO3.out
                have hr := HR3.out
                rw [hd, if_neg (by decide)] at hr
                subst hr
                clear hin hd
                go_wp2_with fail
                go_ret
                exact ⟨rfl, F⟩

/-- The place of a user among wants that are not met; the length: there is none. -/
def wiB (W O : List Wn) (x : Int) (k : Nat) : Bool := (W.getD k (0, 0)).1 == x && decide ((O.getD k (0, 0)).2 < (W.getD k (0, 0)).2)
def wi (W O : List Wn) (x : Int) : Nat := (List.range W.length).findIdx (wiB W O x)
def wiV (W O : List Wn) (x : Int) : Int := if wi W O x < W.length then (wi W O x : Int) else -1
theorem wi_le (W O : List Wn) (x : Int) : wi W O x ≤ W.length := by
  have := List.findIdx_le_length (p := wiB W O x) (xs := List.range W.length)
  rwa [List.length_range] at this
theorem wi_not {W O : List Wn} {x : Int} {k : Nat} (h : k < wi W O x) : wiB W O x k = false := by
  have hl := wi_le W O x
  have h2 := List.not_of_lt_findIdx h
  rw [List.getElem_range] at h2
  simpa using h2
theorem wi_at {W O : List Wn} {x : Int} (h : wi W O x < W.length) : wiB W O x (wi W O x) = true := by
  have h2 := List.findIdx_getElem (p := wiB W O x) (xs := List.range W.length) (w := by rw [List.length_range]; exact h)
  rw [List.getElem_range] at h2
  exact h2
set_option maxRecDepth 100000 in
set_option maxHeartbeats 8000000 in
theorem rwant_any (w : World) (A A2 : Option Addr) (n c c2 : Nat) (W O : List Wn) (x : Int) (hW : RdW w A W) (hO : RdW w A2 O) (hn : W.length = n) (hn' : O.length = n) (hn2 : n ≤ 1000) :
    Calls Try.prog 26 #[.slice A n c, .slice A2 n c2, .int .i64 x] w fun e w' => e = .returned (.int .i64 (wiV W O x)) ∧ ∃ m, w' = w.drewN m := by
  have hle := wi_le W O x
  have HN := Lib.hid (fun j => wi_not (W := W) (O := O) (x := x) (k := j))
  have HA := Lib.hid (wi_at (W := W) (O := O) (x := x))
  have hv : wiV W O x = if wi W O x < W.length then (wi W O x : Int) else -1 := rfl
  obtain ⟨r, hre⟩ : ∃ r, wiV W O x = r := ⟨_, rfl⟩
  obtain ⟨f, hf⟩ : ∃ f, wi W O x = f := ⟨_, rfl⟩
  rw [hre, hf, hn] at hv
  rw [hre]
  rw [hf] at hle HN HA
  rw [hn] at hle HA
  have HLN := Lib.hid (And.intro hn hn')
  have HV := Lib.hid hv
  have HW := Lib.hid hW
  have HO := Lib.hid hO
  have n9 : (n : Int) ≤ 1000 := by omega
  clear hf hn hn' hre hv hW hO
  go_enter Try.func26, Try.ntmps26
  go_wp2_with fail
  go_loopw [7] (fun vi wr => ∃ k : Nat, vi = .int .i64 k ∧ k ≤ f ∧ ∃ m, wr = w.drewN m) (fun vi _ => n - (intOf vi).toNat)
  case atStart => exact ⟨0, rfl, by omega, 0, rfl⟩
  case round =>
    obtain ⟨k, rfl, hk, m, hm⟩ := hrel
    have k0 : (0 : Int) ≤ (k : Int) := Int.natCast_nonneg _
    have HM := Lib.hid hm
    have F : Frm No w wr := by rw [hm]; exact (Frm.refl No w).drewN m
    clear hm
    by_cases hlt : k < n
    · have k1 : (k : Int) < (n : Int) := by omega
      obtain ⟨⟨p, q⟩, hp⟩ : ∃ u, W.getD k (0, 0) = u := ⟨_, rfl⟩
      obtain ⟨⟨p', q'⟩, hp'⟩ : ∃ u, O.getD k (0, 0) = u := ⟨_, rfl⟩
      obtain ⟨ad, rfl, c0, c1⟩ := (HW.out.frmN F).at_ (j := k) (by rw [HLN.out.1]; exact hlt) hp
      obtain ⟨ad', rfl, c2, c3⟩ := (HO.out.frmN F).at_ (j := k) (by rw [HLN.out.2]; exact hlt) hp'
      have hB : wiB W O x k = (p == x && decide (q' < q)) := by unfold wiB; rw [hp, hp']
      have HB := Lib.hid hB
      clear hp hp' hB F
      by_cases hkf : k < f
      · have hnot := HN.out k hkf
        rw [HB.out] at hnot
        by_cases hpx : p = x
        · have e1 : (p == x) = true := beq_iff_eq.2 hpx
          rw [e1, Bool.true_and] at hnot
          have HX := Lib.hid hpx
          clear hpx
          go_wp2_with fail
          go_quiet (fail)
          go_wp2_with fail
          go_roundw
          case rel => exact ⟨k + 1, by go_num, by omega, m + _, by rw [HM.out, World.drewN_drewN]⟩
          case measure => simp [intOf]; omega
        · have e1 : (p == x) = false := beq_eq_false_iff_ne.2 hpx
          clear hnot hpx
          go_wp2_with fail
          go_quiet (fail)
          go_wp2_with fail
          go_roundw
          case rel => exact ⟨k + 1, by go_num, by omega, m + _, by rw [HM.out, World.drewN_drewN]⟩
          case measure => simp [intOf]; omega
      · obtain rfl : k = f := by omega
        have hyes := HA.out hlt
        rw [HB.out, Bool.and_eq_true] at hyes
        obtain ⟨e1, e2⟩ := hyes
        have hr2 : r = (k : Int) := by rw [HV.out, if_pos hlt]
        have HR2 := Lib.hid hr2
        clear hr2
        go_wp2_with fail
        go_quiet (fail)
        go_wp2_with fail
        go_ret
        exact ⟨congrArg (fun (y : Int) => Ending.returned (.int .i64 y)) HR2.out.symm, m + _, by rw [HM.out, World.drewN_drewN]⟩
    · have k1 : ¬ (k : Int) < (n : Int) := by omega
      have hr2 : r = -1 := by rw [HV.out, if_neg (by omega)]
      have HR2 := Lib.hid hr2
      clear hr2
      go_wp2_with fail
      go_ret
      exact ⟨congrArg (fun (y : Int) => Ending.returned (.int .i64 y)) HR2.out.symm, m, HM.out⟩
end Go.Proofs.Ytiifepajnhdfjaa.A
