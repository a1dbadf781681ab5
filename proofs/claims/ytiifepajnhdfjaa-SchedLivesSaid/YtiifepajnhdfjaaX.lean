/- Concat of slices of users; Remove. -/
import Derived.Test.YtiifepajnhdfjaaR
import Derived.Test.YtiifepajnhdfjaaM
namespace Go.Proofs.Ytiifepajnhdfjaa.A
open Go.RowKit Go.Proofs.Ytiifepajnhdfjaa.K
set_option linter.unusedVariables false
set_option linter.unusedSimpArgs false

/-- Grow of nothing. -/
theorem grow_nil (w : World) (n : Nat) (hn : n ≤ 100000) : Calls Try.prog 31 #[.slice none 0 0, .int .i64 (n : Int)] w fun e w' => ∃ v, e = .returned v ∧ w'.ownsRow w.heap.size 60 3 v 0 [] ∧ Frm No w w' := by
  obtain ⟨i0, hi, hz0, hz1, hz2⟩ := info_parts info60
  have n0 : (0 : Int) ≤ (n : Int) := Int.natCast_nonneg _
  by_cases h0 : n = 0
  · subst h0
    go_enter Try.func31, Try.ntmps31
    go_wp2_with fail
    go_ret
    exact ⟨_, rfl, World.ownsRow_nil _ _ _ _, Frm.refl _ _⟩
  · have h1 : (0 : Int) < (n : Int) := by omega
    have hr := fun ty w => Lib.run_append_nil_zeros (P := Try.prog) w 55 3 ty 60 i0 _ .i64 .i64 Try.underlying55 Try.underlying3 hi hz0 n (by omega) (by rw [hz1]; omega) (by omega) (by rw [hz2]; omega)
    go_enter Try.func31, Try.ntmps31
    go_wp2_with (at_builtin; refine Lib.wpList_append_run _ rfl _ _ _ _ rfl _ _ rfl rfl _ _ (hr _ _) ?_)
    go_ret
    have g1 := grownCap_ge w n 0 60
    have g2 := grownCap_le_maxLen w n 0 60 (by unfold maxLen; omega)
    have g3 := size_zeroCells #[Value.int .i64 0, .int .i64 0, .int .i64 0]
    refine ⟨_, rfl, ?_, ((Frm.refl No w).alloc _).drew⟩
    exact World.ownsRow_made w _ _ (Nat.le_refl _) g2 (by rw [Array.size_append, g3, g3]; simp; omega)
/-- Slices that are put together. -/
structure Sl where
  A : Option Addr
  n : Nat
  c : Nat
  xs : List Value
def Sl.val (s : Sl) : Value := .slice s.A s.n s.c
def slN (L : List Sl) (k : Nat) : Nat := ((L.take k).map (·.n)).sum
def slX (L : List Sl) (k : Nat) : List Value := (L.take k).flatMap (·.xs)
def sl0 : Sl := ⟨none, 0, 0, []⟩
theorem slN_step {L : List Sl} {k : Nat} (h : k < L.length) : slN L (k + 1) = slN L k + (L.getD k sl0).n := by
  unfold slN
  rw [List.take_succ_eq_append_getElem h, List.map_append, List.sum_append, List.getD_eq_getElem?_getD, List.getElem?_eq_getElem h]
  simp
theorem slX_step {L : List Sl} {k : Nat} (h : k < L.length) : slX L (k + 1) = slX L k ++ (L.getD k sl0).xs := by
  unfold slX
  rw [List.take_succ_eq_append_getElem h, List.flatMap_append, List.getD_eq_getElem?_getD, List.getElem?_eq_getElem h]
  simp
theorem slN_mono {L : List Sl} : ∀ k, slN L k ≤ slN L L.length := fun k => by
  have key : ∀ (l : List Sl) (k : Nat), slN l k ≤ slN l l.length := fun l => by
    induction l with
    | nil => intro k; simp [slN]
    | cons a l ih =>
      intro k
      cases k with
      | zero => simp [slN]
      | succ k =>
        have := ih k
        simp only [slN, List.take_succ_cons, List.map_cons, List.sum_cons, List.length_cons] at this ⊢
        omega
  exact key L k
set_option maxRecDepth 100000 in
set_option maxHeartbeats 4000000 in
theorem concat_ok (w : World) (gs m c : Nat) (L : List Sl) (hL : L.length = m) (hb : Blk w gs (L.map Sl.val).toArray 55) (hr : ∀ k, k < m → Rds w 3 (L.getD k sl0).A (L.getD k sl0).n (L.getD k sl0).xs) (h1 : ∀ k, k < m → ∀ u ∈ (L.getD k sl0).xs, u.oneCell' = true)
    (hN : slN L m ≤ 100000) (hm : m ≤ 100) : Calls Try.prog 23 #[.slice (some ⟨gs, 0, none⟩) m c] w fun e w' => ∃ v, e = .returned v ∧ w'.ownsRow w.heap.size 60 3 v (slN L m) (slX L m) ∧ Frm No w w' := by
  obtain ⟨i0, hi, hz0, hz1, hz2⟩ := info_parts info60
  have hcell : ∀ wr k, Frm No w wr → k < m → wr.cell? ⟨gs, k, none⟩ = some (.slice (L.getD k sl0).A (L.getD k sl0).n (L.getD k sl0).c) := fun wr k F hk => by
    rw [(F.blk hb (fun h => h)).cell]
    simp [List.getElem?_eq_getElem (show k < L.length by omega), List.getD_eq_getElem?_getD, Sl.val]
  have hmono := slN_mono (L := L)
  rw [hL] at hmono
  have HC := Lib.hid hcell
  have HR := Lib.hid hr
  have H1 := Lib.hid h1
  have HL := Lib.hid hL
  have HM := Lib.hid hmono
  clear hcell hr h1 hL hmono hb
  go_enter Try.func23, Try.ntmps23
  go_wp2_with fail
  go_loop [3, 11] (fun vs vi => ∃ k : Nat, vi = .int .i64 k ∧ k ≤ m ∧ vs = .int .i64 (slN L k)) (fun _ vi => m - (intOf vi).toNat)
  case atStart => exact ⟨0, rfl, by omega, rfl⟩
  case round =>
    obtain ⟨k, rfl, hk, rfl⟩ := hrel
    have k0 : (0 : Int) ≤ (k : Int) := Int.natCast_nonneg _
    by_cases hlt : k < m
    · have k1 : (k : Int) < (m : Int) := by omega
      have kc := HC.out _ k (Frm.refl _ _) hlt
      have hst := slN_step (L := L) (k := k) (by rw [HL.out]; exact hlt)
      have h2 := HM.out (k + 1)
      obtain ⟨⟨A, n, c', xs⟩, hs⟩ : ∃ s, L.getD k sl0 = s := ⟨_, rfl⟩
      rw [hs] at kc hst
      simp only at kc hst
      obtain ⟨s1, hs1⟩ : ∃ s, slN L k = s := ⟨_, rfl⟩
      rw [hs1] at hst ⊢
      have s0 : (0 : Int) ≤ (s1 : Int) := Int.natCast_nonneg _
      have b1 : (s1 : Int) + (n : Int) ≤ 100000 := by omega
      have n0 : (0 : Int) ≤ (n : Int) := Int.natCast_nonneg _
      have HS := Lib.hid hst
      clear hs hs1 hst h2
      go_wp2_with fail
      go_round
      case rel => exact ⟨k + 1, by go_num, by omega, by rw [HS.out]; go_num⟩
      case measure => simp [intOf]; omega
    · have k1 : ¬ (k : Int) < (m : Int) := by omega
      obtain rfl : k = m := by omega
      go_wp2_with fail
      refine (grow_nil _ _ hN).mono ?_
      rintro e w1 ⟨v, rfl, own, F⟩
      go_wp2_with fail
      go_loopw [6, 27] (fun vo vi wr => ∃ k' : Nat, vi = .int .i64 k' ∧ k' ≤ k ∧ wr.ownsRow w.heap.size 60 3 vo (slN L k') (slX L k') ∧ Frm No w wr) (fun _ vi _ => k - (intOf vi).toNat)
      case atStart => exact ⟨0, rfl, by omega, by simpa [slN, slX] using own, F⟩
      case round =>
        clear own F
        obtain ⟨j, rfl, hj, own, F⟩ := hrel
        have j0 : (0 : Int) ≤ (j : Int) := Int.natCast_nonneg _
        by_cases hlt : j < k
        · have j1 : (j : Int) < (k : Int) := by omega
          have kc := HC.out _ j F hlt
          have hst := slN_step (L := L) (k := j) (by rw [HL.out]; exact hlt)
          have hsx := slX_step (L := L) (k := j) (by rw [HL.out]; exact hlt)
          have h2 := HM.out (j + 1)
          have hrd := (HR.out j hlt).frmN F
          have hon := H1.out j hlt
          obtain ⟨⟨A, n, c', xs⟩, hs⟩ : ∃ s, L.getD j sl0 = s := ⟨_, rfl⟩
          rw [hs] at kc hst hsx hrd hon
          simp only at kc hst hsx hrd hon
          have hsz := F.size
          obtain ⟨s1, hs1⟩ : ∃ s, slN L j = s := ⟨_, rfl⟩
          rw [hs1] at hst own
          obtain ⟨x1, hx1⟩ : ∃ s, slX L j = s := ⟨_, rfl⟩
          rw [hx1] at hsx own
          obtain ⟨A', c2, rfl, -, -⟩ := own_is own
          have b1 : s1 + n ≤ 100000 := by omega
          have HS := Lib.hid (And.intro hst (And.intro hsx (And.intro F own)))
          clear hs hs1 hst h2 hsx hx1 F
          go_wp2_with (at_builtin; go_must (refine wpList_append_rds _ rfl _ _ 55 rfl w.heap.size 60 i0 _ 3 24 Try.underlying55 hi hz0 hz1 hz2 zero_three (by omega) _ s1 x1 rfl own A n c' xs rfl hrd hon (by unfold maxLen; omega) (by omega) hsz ?_; intro v3 w3 own3 hg3))
          go_roundw
          case rel => exact ⟨j + 1, by go_num, by omega, by rw [HS.out.1, HS.out.2.1]; exact own3, own_grown HS.out.2.2.2 HS.out.2.2.1 (Nat.le_refl _) hg3⟩
          case measure => simp [intOf]; omega
        · have j1 : ¬ (j : Int) < (k : Int) := by omega
          obtain rfl : j = k := by omega
          go_wp2_with fail
          go_ret
          exact ⟨_, rfl, own, F⟩
end Go.Proofs.Ytiifepajnhdfjaa.A
