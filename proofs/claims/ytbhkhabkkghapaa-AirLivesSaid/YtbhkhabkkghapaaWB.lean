/- Clone of bytes; Grow and Concat of blocks; the way's methods that only ask. -/
import Derived.Test.YtbhkhabkkghapaaWA
import Derived.Deep.RegionLaw
import Derived.Deep.RegionHeld3
import Derived.BigRegion
import Derived.IntWalk
namespace Go.Proofs.Ytbhkhabkkghapaa.A
open Go.RowKit Go.Proofs.Ytbhkhabkkghapaa.K Go.Proofs.Ytbhkhabkkghapaa.N Go.Proofs.Ytbhkhabkkghapaa.F
set_option linter.unusedVariables false
set_option linter.unusedSimpArgs false

theorem info22 : (Try.prog.info? 22).map (fun i => (i.zero, i.size, i.bytes)) = some (some (.slice none 0 0), 1, 24) := by kernel_rfl
set_option maxRecDepth 100000 in
set_option maxHeartbeats 2000000 in
theorem clone_ok (w : World) (A : Option Addr) (n c : Nat) (L : List Nat) (h : Bin w A L) (hl : L.length = n) (hn : n ≤ 100000) : Calls Try.prog 25 #[.slice A n c] w fun e w' => ∃ b : Bl, e = .returned b.val ∧ IsB w' b L ∧ Frm No w w' := by
  obtain ⟨i0, hi, hz0, hz1, hz2⟩ := info_parts info5
  unfold Bin at h
  rw [hl] at h
  cases A with
  | none =>
    have h0 : n = 0 := by
      rcases Nat.eq_zero_or_pos n with h0 | h0
      · exact h0
      · obtain ⟨ad, e, _⟩ := h.2 h0
        cases e
    have hL : L = [] := List.eq_nil_of_length_eq_zero (by omega)
    subst hL
    subst h0
    have he := Lib.run_eql_slice_nil (P := Try.prog) w 22 5 none 0 c 0 0 Try.underlying22
    go_enter Try.func25, Try.ntmps25
    go_wp2_with fail
    go_ret
    exact ⟨bl0, rfl, ⟨rfl, Nat.le_refl _, Bys.nil _ _⟩, Frm.refl _ _⟩
  | some ad =>
    have he := Lib.run_eql_slice_nil (P := Try.prog) w 22 5 (some ad) n c 0 0 Try.underlying22
    have F0 := (Frm.refl No w).alloc (.cells #[] 5)
    by_cases h0 : n = 0
    · have hL : L = [] := List.eq_nil_of_length_eq_zero (by omega)
      subst hL
      subst h0
      have hr := fun ty w' => run_append_zero (P := Try.prog) w' 22 ty 5 i0 Try.underlying22 hi (some ⟨w.heap.size, 0, none⟩) (some ad) c
      go_enter Try.func25, Try.ntmps25
      go_wp2_with (at_builtin; refine Lib.wpList_append_run _ rfl _ _ _ _ rfl _ _ rfl rfl _ _ (hr _ _) ?_)
      go_ret
      exact ⟨⟨_, 0, 0⟩, rfl, ⟨rfl, Nat.le_refl _, Bys.nil _ _⟩, F0⟩
    · obtain ⟨ad', e, hb, hc⟩ := h.2 (by omega)
      injection e with e
      subst e
      have hc2 : ∀ j u, (L.map by8)[j]? = some u → (w.alloc (.cells #[] 5)).cell? (ad.add j) = some u := fun j u hu => by
        rw [World.cell?_alloc_lt w _ _ (by rw [block_add]; exact hb)]
        exact hc j u hu
      have HC := Lib.hid hc2
      have H1 := Lib.hid (by8_one L)
      have hlm := h.1
      rw [Nat.mul_one] at hlm
      obtain ⟨M, hM⟩ : ∃ M, L.map by8 = M := ⟨_, rfl⟩
      rw [hM] at HC H1 hlm
      have HM := Lib.hid hM
      have HLM := Lib.hid hlm
      clear hc hc2 h hM hlm
      go_enter Try.func25, Try.ntmps25
      go_wp2_with (at_builtin; go_must (refine wpList_append_grows _ rfl _ _ 22 rfl 5 i0 _ 1 1 Try.underlying22 hi hz0 hz1 hz2 rfl (by omega) (some ⟨w.heap.size, 0, none⟩) 0 0 [] rfl (fun _ => ⟨rfl, rfl⟩) rfl (fun b _ j u hu => by simp at hu) ad n c M rfl (by rw [HLM.out, Nat.mul_one]) HC.out H1.out (by omega) (by unfold maxLen; omega) (by omega) ?_; intro v3 w3 own3 hg3))
      go_ret
      have F3 := F0.grown hg3 (fun q e => by cases e)
      rw [Nat.zero_add, List.nil_append, ← HM.out] at own3
      obtain ⟨A3, c3, rfl, hc3, -⟩ := own_is own3
      obtain ⟨hb3, -⟩ := Bys.of_own own3
      exact ⟨⟨A3, n, c3⟩, rfl, ⟨hl.symm, hc3, hb3⟩, F3⟩
/-- Grow of nothing. -/
theorem grow_nil (w : World) (n : Nat) (hn : n ≤ 100000) : Calls Try.prog 38 #[.slice none 0 0, .int .i64 (n : Int)] w fun e w' => ∃ v, e = .returned v ∧ w'.ownsRow w.heap.size 22 1 v 0 [] ∧ Frm No w w' := by
  obtain ⟨i0, hi, hz0, hz1, hz2⟩ := info_parts info22
  have n0 : (0 : Int) ≤ (n : Int) := Int.natCast_nonneg _
  by_cases h0 : n = 0
  · subst h0
    go_enter Try.func38, Try.ntmps38
    go_wp2_with fail
    go_ret
    exact ⟨_, rfl, World.ownsRow_nil _ _ _ _, Frm.refl _ _⟩
  · have h1 : (0 : Int) < (n : Int) := by omega
    have hr := fun ty w => Lib.run_append_nil_zeros (P := Try.prog) w 32 3 ty 22 i0 _ .i64 .i64 Try.underlying32 Try.underlying3 hi hz0 n (by omega) (by rw [hz1]; omega) (by omega) (by rw [hz2]; omega)
    go_enter Try.func38, Try.ntmps38
    go_wp2_with (at_builtin; refine Lib.wpList_append_run _ rfl _ _ _ _ rfl _ _ rfl rfl _ _ (hr _ _) ?_)
    go_ret
    have g1 := grownCap_ge w n 0 22
    have g2 := grownCap_le_maxLen w n 0 22 (by unfold maxLen; omega)
    have g3 := size_zeroCells #[Value.slice none 0 0]
    refine ⟨_, rfl, ?_, ((Frm.refl No w).alloc _).drew⟩
    exact World.ownsRow_made w _ _ (Nat.le_refl _) g2 (by rw [Array.size_append, g3, g3]; simp; omega)
/-- Slices that are put together. -/
structure Sl where
  A : Option Addr
  n : Nat
  c : Nat
  xs : List Value
def Sl.val (s : Sl) : Value := .slice s.A s.n s.c
def slN (L : List Sl) (k : Nat) : Nat := ((L.take k).map (·.n)).sum
def slX (L : List Sl) (k : Nat) : List Value := (L.take k).flatMap (·.xs)
def sl0 : Sl := ⟨none, 0, 0, []⟩
theorem slN_step {L : List Sl} {k : Nat} (h : k < L.length) : slN L (k + 1) = slN L k + (L.getD k sl0).n := by
  unfold slN
  rw [List.take_succ_eq_append_getElem h, List.map_append, List.sum_append, List.getD_eq_getElem?_getD, List.getElem?_eq_getElem h]
  simp
theorem slX_step {L : List Sl} {k : Nat} (h : k < L.length) : slX L (k + 1) = slX L k ++ (L.getD k sl0).xs := by
  unfold slX
  rw [List.take_succ_eq_append_getElem h, List.flatMap_append, List.getD_eq_getElem?_getD, List.getElem?_eq_getElem h]
  simp
theorem slN_mono {L : List Sl} : ∀ k, slN L k ≤ slN L L.length := fun k => by
  have key : ∀ (l : List Sl) (k : Nat), slN l k ≤ slN l l.length := fun l => by
    induction l with
    | nil => intro k; simp [slN]
    | cons a l ih =>
      intro k
      cases k with
      | zero => simp [slN]
      | succ k =>
        have := ih k
        simp only [slN, List.take_succ_cons, List.map_cons, List.sum_cons, List.length_cons] at this ⊢
        omega
  exact key L k
set_option maxRecDepth 100000 in
set_option maxHeartbeats 4000000 in
theorem concat_ok (w : World) (gs m c : Nat) (L : List Sl) (hL : L.length = m) (hb : Blk w gs (L.map Sl.val).toArray 32) (hr : ∀ k, k < m → Rds w 1 (L.getD k sl0).A (L.getD k sl0).n (L.getD k sl0).xs) (h1 : ∀ k, k < m → ∀ u ∈ (L.getD k sl0).xs, u.oneCell' = true)
    (hN : slN L m ≤ 100000) (hm : m ≤ 100) : Calls Try.prog 31 #[.slice (some ⟨gs, 0, none⟩) m c] w fun e w' => ∃ v, e = .returned v ∧ w'.ownsRow w.heap.size 22 1 v (slN L m) (slX L m) ∧ Frm No w w' := by
  obtain ⟨i0, hi, hz0, hz1, hz2⟩ := info_parts info22
  have hcell : ∀ wr k, Frm No w wr → k < m → wr.cell? ⟨gs, k, none⟩ = some (.slice (L.getD k sl0).A (L.getD k sl0).n (L.getD k sl0).c) := fun wr k F hk => by
    rw [(F.blk hb (fun h => h)).cell]
    simp [List.getElem?_eq_getElem (show k < L.length by omega), List.getD_eq_getElem?_getD, Sl.val]
  have hmono := slN_mono (L := L)
  rw [hL] at hmono
  have HC := Lib.hid hcell
  have HR := Lib.hid hr
  have H1 := Lib.hid h1
  have HL := Lib.hid hL
  have HM := Lib.hid hmono
  clear hcell hr h1 hL hmono hb
  go_enter Try.func31, Try.ntmps31
  go_wp2_with fail
  go_loop [3, 11] (fun vs vi => ∃ k : Nat, vi = .int .i64 k ∧ k ≤ m ∧ vs = .int .i64 (slN L k)) (fun _ vi => m - (intOf vi).toNat)
  case atStart => exact ⟨0, rfl, by omega, rfl⟩
  case round =>
    obtain ⟨k, rfl, hk, rfl⟩ := hrel
    have k0 : (0 : Int) ≤ (k : Int) := Int.natCast_nonneg _
    by_cases hlt : k < m
    · have k1 : (k : Int) < (m : Int) := by omega
      have kc := HC.out _ k (Frm.refl _ _) hlt
      have hst := slN_step (L := L) (k := k) (by rw [HL.out]; exact hlt)
      have h2 := HM.out (k + 1)
      obtain ⟨⟨A, n, c', xs⟩, hs⟩ : ∃ s, L.getD k sl0 = s := ⟨_, rfl⟩
      rw [hs] at kc hst
      simp only at kc hst
      obtain ⟨s1, hs1⟩ : ∃ s, slN L k = s := ⟨_, rfl⟩
      rw [hs1] at hst ⊢
      have s0 : (0 : Int) ≤ (s1 : Int) := Int.natCast_nonneg _
      have b1 : (s1 : Int) + (n : Int) ≤ 100000 := by omega
      have n0 : (0 : Int) ≤ (n : Int) := Int.natCast_nonneg _
      have HS := Lib.hid hst
      clear hs hs1 hst h2
      go_wp2_with fail
      go_round
      case rel => exact ⟨k + 1, by go_num, by omega, by rw [HS.out]; go_num⟩
      case measure => simp [intOf]; omega
    · have k1 : ¬ (k : Int) < (m : Int) := by omega
      obtain rfl : k = m := by omega
      go_wp2_with fail
      refine (grow_nil _ _ hN).mono ?_
      rintro e w1 ⟨v, rfl, own, F⟩
      go_wp2_with fail
      go_loopw [6, 27] (fun vo vi wr => ∃ k' : Nat, vi = .int .i64 k' ∧ k' ≤ k ∧ wr.ownsRow w.heap.size 22 1 vo (slN L k') (slX L k') ∧ Frm No w wr) (fun _ vi _ => k - (intOf vi).toNat)
      case atStart => exact ⟨0, rfl, by omega, by simpa [slN, slX] using own, F⟩
      case round =>
        clear own F
        obtain ⟨j, rfl, hj, own, F⟩ := hrel
        have j0 : (0 : Int) ≤ (j : Int) := Int.natCast_nonneg _
        by_cases hlt : j < k
        · have j1 : (j : Int) < (k : Int) := by omega
          have kc := HC.out _ j F hlt
          have hst := slN_step (L := L) (k := j) (by rw [HL.out]; exact hlt)
          have hsx := slX_step (L := L) (k := j) (by rw [HL.out]; exact hlt)
          have h2 := HM.out (j + 1)
          have hrd := (HR.out j hlt).frmN F
          have hon := H1.out j hlt
          obtain ⟨⟨A, n, c', xs⟩, hs⟩ : ∃ s, L.getD j sl0 = s := ⟨_, rfl⟩
          rw [hs] at kc hst hsx hrd hon
          simp only at kc hst hsx hrd hon
          have hsz := F.size
          obtain ⟨s1, hs1⟩ : ∃ s, slN L j = s := ⟨_, rfl⟩
          rw [hs1] at hst own
          obtain ⟨x1, hx1⟩ : ∃ s, slX L j = s := ⟨_, rfl⟩
          rw [hx1] at hsx own
          obtain ⟨A', c2, rfl, -, -⟩ := own_is own
          have b1 : s1 + n ≤ 100000 := by omega
          have HS := Lib.hid (And.intro hst (And.intro hsx (And.intro F own)))
          clear hs hs1 hst h2 hsx hx1 F
          go_wp2_with (at_builtin; go_must (refine wpList_append_rds _ rfl _ _ 32 rfl w.heap.size 22 i0 _ 1 24 Try.underlying32 hi hz0 hz1 hz2 rfl (by omega) _ s1 x1 rfl own A n c' xs rfl hrd hon (by unfold maxLen; omega) (by omega) hsz ?_; intro v3 w3 own3 hg3))
          go_roundw
          case rel => exact ⟨j + 1, by go_num, by omega, by rw [HS.out.1, HS.out.2.1]; exact own3, own_grown HS.out.2.2.2 HS.out.2.2.1 (Nat.le_refl _) hg3⟩
          case measure => simp [intOf]; omega
        · have j1 : ¬ (j : Int) < (k : Int) := by omega
          obtain rfl : j = k := by omega
          go_wp2_with fail
          go_ret
          exact ⟨_, rfl, own, F⟩
end Go.Proofs.Ytbhkhabkkghapaa.A
