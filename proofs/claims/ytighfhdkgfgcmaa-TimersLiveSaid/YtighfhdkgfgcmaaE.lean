/- What each method of timers does, whole; the fixed calls of layer 5. -/
import Derived.Test.YtighfhdkgfgcmaaD
import Derived.Test.YtighfhdkgfgcmaaO
namespace Go.Proofs.Ytighfhdkgfgcmaa.A
open Go.RowKit Go.Proofs.Ytighfhdkgfgcmaa.K Go.Proofs.Ytighfhdkgfgcmaa.N
set_option linter.unusedVariables false
set_option linter.unusedSimpArgs false

def inB (i : Int) : Prop := 0 ≤ i ∧ i < 8
instance (i : Int) : Decidable (inB i) := inferInstanceAs (Decidable (0 ≤ i ∧ i < 8))
def startE (i n : Int) : Int := if inB i ∧ 1 ≤ n ∧ n ≤ 1000 then 0 else 1
def startL (L : List Int) (i n : Int) : List Int := if inB i ∧ 1 ≤ n ∧ n ≤ 1000 then L.set i.toNat n else L
def stopE (i : Int) : Int := if inB i then 0 else 1
def stopL (L : List Int) (i : Int) : List Int := if inB i then L.set i.toNat 0 else L
def leftN (L : List Int) (i : Int) : Int := if inB i then L.getD i.toNat 0 else 0

theorem start_any (w : World) (g : Nat) (L : List Int) (i n : Int) (h : IsT w g true L) :
    Calls Try.prog 7 #[.pointer (some ⟨g, 0, none⟩), .int .i64 i, .int .i64 n] w fun e w' => e = .returned (.int .i64 (startE i n)) ∧ IsT w' g true (startL L i n) ∧ Frm (fun x => x = g) w w' := by
  by_cases hi : inB i
  · obtain ⟨k, rfl⟩ := Int.eq_ofNat_of_zero_le hi.1
    have hk : k < 8 := by have := hi.2; omega
    by_cases hn : 1 ≤ n ∧ n ≤ 1000
    · have e1 : startE k n = 0 := by unfold startE; rw [if_pos ⟨hi, hn⟩]
      have e2 : startL L k n = L.set k n := by unfold startL; rw [if_pos ⟨hi, hn⟩]; rfl
      rw [e1, e2]; exact start_ok w g L k n h hk hn.1 hn.2
    · have e1 : startE k n = 1 := by unfold startE; rw [if_neg (fun h => hn h.2)]
      have e2 : startL L k n = L := by unfold startL; rw [if_neg (fun h => hn h.2)]
      rw [e1, e2]
      exact (start_long w g L k n h hk (by omega)).mono fun e w' ⟨he, hw⟩ => ⟨he, hw ▸ h, hw ▸ Frm.refl _ _⟩
  · have e1 : startE i n = 1 := by unfold startE; rw [if_neg (fun h => hi h.1)]
    have e2 : startL L i n = L := by unfold startL; rw [if_neg (fun h => hi h.1)]
    rw [e1, e2]
    exact (start_bad w g L i n h hi).mono fun e w' ⟨he, hw⟩ => ⟨he, hw ▸ h, hw ▸ Frm.refl _ _⟩

theorem stop_any (w : World) (g : Nat) (L : List Int) (i : Int) (h : IsT w g true L) :
    Calls Try.prog 8 #[.pointer (some ⟨g, 0, none⟩), .int .i64 i] w fun e w' => e = .returned (.int .i64 (stopE i)) ∧ IsT w' g true (stopL L i) ∧ Frm (fun x => x = g) w w' := by
  by_cases hi : inB i
  · obtain ⟨k, rfl⟩ := Int.eq_ofNat_of_zero_le hi.1
    have hk : k < 8 := by have := hi.2; omega
    have e1 : stopE k = 0 := by unfold stopE; rw [if_pos hi]
    have e2 : stopL L k = L.set k 0 := by unfold stopL; rw [if_pos hi]; rfl
    rw [e1, e2]; exact stop_ok w g L k h hk
  · have e1 : stopE i = 1 := by unfold stopE; rw [if_neg hi]
    have e2 : stopL L i = L := by unfold stopL; rw [if_neg hi]
    rw [e1, e2]
    exact (stop_bad w g L i h hi).mono fun e w' ⟨he, hw⟩ => ⟨he, hw ▸ h, hw ▸ Frm.refl _ _⟩

theorem left_any (w : World) (g : Nat) (L : List Int) (i : Int) (h : IsT w g true L) :
    Calls Try.prog 10 #[.pointer (some ⟨g, 0, none⟩), .int .i64 i] w fun e w' => e = .returned (.int .i64 (leftN L i)) ∧ w = w' := by
  by_cases hi : inB i
  · obtain ⟨k, rfl⟩ := Int.eq_ofNat_of_zero_le hi.1
    have hk : k < 8 := by have := hi.2; omega
    have e1 : leftN L k = L.getD k 0 := by unfold leftN; rw [if_pos hi]; rfl
    rw [e1]; exact left_ok w g L k h hk
  · have e1 : leftN L i = 0 := by unfold leftN; rw [if_neg hi]
    rw [e1]; exact left_bad w g L i h hi

/-- Eight timers, each of which has nothing left, or up to 1000. -/
def Fit (L : List Int) : Prop := L.length = 8 ∧ ∀ k, 0 ≤ L.getD k 0 ∧ L.getD k 0 ≤ 1000
theorem fit_set {L : List Int} (h : Fit L) (k : Nat) (v : Int) (h0 : 0 ≤ v) (h1 : v ≤ 1000) : Fit (L.set k v) := by
  refine ⟨by rw [List.length_set]; exact h.1, fun q => ?_⟩
  by_cases hk : k < L.length
  · rw [getD_set _ _ _ _ hk]
    split
    · exact ⟨h0, h1⟩
    · exact h.2 q
  · rw [List.set_eq_of_length_le (by omega)]; exact h.2 q
theorem fit_start {L : List Int} (h : Fit L) (i n : Int) : Fit (startL L i n) := by
  unfold startL
  split
  · rename_i hc; exact fit_set h _ _ (by omega) (by omega)
  · exact h
theorem fit_stop {L : List Int} (h : Fit L) (i : Int) : Fit (stopL L i) := by
  unfold stopL
  split
  · exact fit_set h _ _ (by omega) (by omega)
  · exact h
theorem fit_tick {L : List Int} (h : Fit L) : Fit (tickL L) := by
  refine ⟨by simp [tickL]; exact h.1, fun k => ?_⟩
  rw [tickL_getD]
  have := h.2 k
  split <;> omega
theorem fit_zero : Fit [0, 0, 0, 0, 0, 0, 0, 0] := by
  refine ⟨rfl, fun k => ?_⟩
  have : ([0, 0, 0, 0, 0, 0, 0, 0] : List Int).getD k 0 = 0 := by
    match k with
    | 0 | 1 | 2 | 3 | 4 | 5 | 6 | 7 => rfl
    | n + 8 => rfl
  rw [this]; omega

/-- It stays with a timer that is not touched. -/
theorem start_other {L : List Int} (h : L.length = 8) {i n : Int} {k : Nat} (hk : i ≠ k) : (startL L i n).getD k 0 = L.getD k 0 := by
  unfold startL
  split
  · rename_i hc
    have := hc.1.1
    have := hc.1.2
    rw [getD_set _ _ _ _ (by omega), if_neg (by omega)]
  · rfl
theorem stop_other {L : List Int} (h : L.length = 8) {i : Int} {k : Nat} (hk : i ≠ k) : (stopL L i).getD k 0 = L.getD k 0 := by
  unfold stopL
  split
  · rename_i hc
    have := hc.1
    have := hc.2
    rw [getD_set _ _ _ _ (by omega), if_neg (by omega)]
  · rfl

set_option maxRecDepth 100000 in
set_option maxHeartbeats 1000000 in
theorem tick_none (p : Value) (w : World) (h : Calls Try.prog 18 #[p] w (Handed No (fun _ => True) w [])) : Calls Try.prog 9 #[p] w (Handed No (fun _ => True) w []) := by
  have H := Lib.hid h
  clear h
  go_enter Try.func9, Try.ntmps9
  go_wp2_with fail
  refine H.out.mono ?_
  rintro e w1 ⟨v, rfl, ho, f1, -⟩
  obtain ⟨A, c, rfl, -⟩ := handed_cells (l := []) (by exact ho)
  clear ho
  go_wp2_with fail
  refine wp_loop_rounds 1 ?_
  rw [rounds_succ]
  go_wp2_with fail
  go_ret
  exact ⟨_, rfl, World.ownsRow_nil _ _ _ _, f1, trivial⟩
end Go.Proofs.Ytighfhdkgfgcmaa.A
