/- ask's closures; IndexFunc. -/
import Derived.Test.YtiifepajnhdfjaaA
namespace Go.Proofs.Ytiifepajnhdfjaa.A
open Go.RowKit Go.Proofs.Ytiifepajnhdfjaa.K
set_option linter.unusedVariables false
set_option linter.unusedSimpArgs false

abbrev Wn := Int × Int
def RdW (w : World) (A : Option Addr) (L : List Wn) : Prop := ∀ j, j < L.length → ∃ ad, A = some ad ∧ ad.block < w.heap.size ∧ w.cell? (ad.add (j * 2)) = some (.int .i64 (L.getD j (0, 0)).1) ∧
  w.cell? ⟨(ad.add (j * 2)).block, (ad.add (j * 2)).off + 1, none⟩ = some (.int .i64 (L.getD j (0, 0)).2)
theorem RdW.frmN {w w' : World} {A : Option Addr} {L : List Wn} (h : RdW w A L) (f : Frm No w w') : RdW w' A L := fun j hj => by
  obtain ⟨ad, e, hb, hc, hd⟩ := h j hj
  exact ⟨ad, e, Nat.lt_of_lt_of_le hb f.size, (World.cell?_of_block (f.block _ (by rw [block_add]; exact hb) (fun h => h))).trans hc, (World.cell?_of_block (f.block _ (by show (ad.add (j * 2)).block < _; rw [block_add]; exact hb) (fun h => h))).trans hd⟩

theorem far_is (i b : Int) (w : World) : Calls Try.prog 28 #[.agg #[.int .i64 i, .int .i64 b]] w fun e w' => e = .returned (.bool (decide (b < 0 ∨ 1048576 < b))) ∧ Frm No w w' := by
  have F0 := (Frm.refl No w).alloc (.cells #[.int .i64 i, .int .i64 b] 35)
  by_cases h1 : b < 0
  · rw [decide_eq_true (Or.inl h1)]
    go_enter Try.func28, Try.ntmps28
    go_wp2_with fail
    go_ret
    exact ⟨rfl, F0⟩
  · by_cases h2 : 1048576 < b
    · rw [decide_eq_true (Or.inr h2)]
      go_enter Try.func28, Try.ntmps28
      go_wp2_with fail
      go_ret
      exact ⟨rfl, F0⟩
    · rw [decide_eq_false (by omega)]
      go_enter Try.func28, Try.ntmps28
      go_wp2_with fail
      go_ret
      exact ⟨rfl, F0⟩
theorem ret_eq {a b : Bool} (h : a = b) : Ending.returned (.bool a) = .returned (.bool b) := by rw [h]
set_option maxRecDepth 100000 in
set_option maxHeartbeats 2000000 in
theorem index_28 (w : World) (A : Option Addr) (n c : Nat) (W : List Wn) (P : Nat → Bool) (hW : RdW w A W) (hn : n ≤ W.length) (hn2 : n ≤ 1000)
    (hc : ∀ j, j < n → ∀ wr, Frm No w wr → Calls Try.prog 28 #[.agg #[.int .i64 (W.getD j (0, 0)).1, .int .i64 (W.getD j (0, 0)).2]] wr fun e w' => e = .returned (.bool (P j)) ∧ Frm No wr w') :
    Calls Try.prog 32 #[.slice A n c, .func (.func 28) #[] #[]] w fun e w' => (∃ r : Int, e = .returned (.int .i64 r) ∧ (decide (r ≥ 0)) = (List.range n).any P) ∧ Frm No w w' := by
  have HC := Lib.hid hc
  clear hc
  go_enter Try.func32, Try.ntmps32
  go_wp2_with fail
  go_loopw [8] (fun vi wr => ∃ i : Nat, vi = .int .i64 i ∧ i ≤ n ∧ (List.range i).any P = false ∧ Frm No w wr) (fun vi _ => n - (intOf vi).toNat)
  case atStart => exact ⟨0, rfl, by omega, rfl, Frm.refl _ _⟩
  case round =>
    obtain ⟨i, rfl, hi, hno, hF⟩ := hrel
    have i0 : (0 : Int) ≤ (i : Int) := Int.natCast_nonneg _
    have HNO := Lib.hid hno
    clear hno
    by_cases hlt : i < n
    · have i1 : (i : Int) < (n : Int) := by omega
      obtain ⟨ad, rfl, -, k0, k1⟩ := (hW.frmN hF) i (by omega)
      have h1 := HC.out i hlt wr hF
      obtain ⟨⟨p, q⟩, hp⟩ : ∃ u, W.getD i (0, 0) = u := ⟨_, rfl⟩
      rw [hp] at k0 k1 h1
      simp only at k0 k1 h1
      obtain ⟨t, ht⟩ : ∃ t, P i = t := ⟨_, rfl⟩
      rw [ht] at h1
      have HT := Lib.hid ht
      clear ht hp
      cases t with
      | true =>
        go_wp2_with fail
        refine h1.mono ?_
        rintro e w2 ⟨rfl, f2⟩
        go_wp2_with fail
        go_ret
        refine ⟨⟨_, rfl, ?_⟩, hF.thenN f2⟩
        rw [decide_eq_true (by omega), eq_comm, List.any_eq_true]
        exact ⟨i, List.mem_range.2 hlt, HT.out⟩
      | false =>
        go_wp2_with fail
        refine h1.mono ?_
        rintro e w2 ⟨rfl, f2⟩
        go_wp2_with fail
        go_roundw
        case rel => exact ⟨i + 1, by go_num, by omega, by rw [List.range_succ, List.any_append, HNO.out]; simp [HT.out], hF.thenN f2⟩
        case measure => simp [intOf]; omega
    · have i1 : ¬ (i : Int) < (n : Int) := by omega
      have hin : i = n := by omega
      subst hin
      go_wp2_with fail
      go_ret
      exact ⟨⟨_, rfl, by rw [HNO.out]; rfl⟩, hF⟩
theorem contains_28 (w : World) (A : Option Addr) (n c : Nat) (W : List Wn) (P : Nat → Bool) (hW : RdW w A W) (hn : n ≤ W.length) (hn2 : n ≤ 1000)
    (hc : ∀ j, j < n → ∀ wr, Frm No w wr → Calls Try.prog 28 #[.agg #[.int .i64 (W.getD j (0, 0)).1, .int .i64 (W.getD j (0, 0)).2]] wr fun e w' => e = .returned (.bool (P j)) ∧ Frm No wr w') :
    Calls Try.prog 27 #[.slice A n c, .func (.func 28) #[] #[]] w fun e w' => e = .returned (.bool ((List.range n).any P)) ∧ Frm No w w' := by
  have h := index_28 w A n c W P hW hn hn2 hc
  obtain ⟨t, ht⟩ : ∃ t, (List.range n).any P = t := ⟨_, rfl⟩
  rw [ht]
  rw [ht] at h
  clear hc
  go_enter Try.func27, Try.ntmps27
  go_wp2_with fail
  refine h.mono ?_
  rintro e w1 ⟨⟨r, rfl, hr⟩, f1⟩
  go_wp2_with fail
  go_ret
  exact ⟨rfl, f1⟩
set_option maxRecDepth 100000 in
set_option maxHeartbeats 2000000 in
theorem index_29 (w : World) (A : Option Addr) (n c : Nat) (pc : Nat) (W : List Wn) (P : Nat → Bool) (hW : RdW w A W) (hn : n ≤ W.length) (hn2 : n ≤ 1000)
    (hc : ∀ j, j < n → ∀ wr, Frm No w wr → Calls Try.prog 29 #[.agg #[.int .i64 (W.getD j (0, 0)).1, .int .i64 (W.getD j (0, 0)).2], .pointer (some ⟨pc, 0, none⟩)] wr fun e w' => e = .returned (.bool (P j)) ∧ Frm No wr w') :
    Calls Try.prog 32 #[.slice A n c, .func (.func 29) #[] #[.pointer (some ⟨pc, 0, none⟩)]] w fun e w' => (∃ r : Int, e = .returned (.int .i64 r) ∧ (decide (r ≥ 0)) = (List.range n).any P) ∧ Frm No w w' := by
  have HC := Lib.hid hc
  clear hc
  go_enter Try.func32, Try.ntmps32
  go_wp2_with fail
  go_loopw [8] (fun vi wr => ∃ i : Nat, vi = .int .i64 i ∧ i ≤ n ∧ (List.range i).any P = false ∧ Frm No w wr) (fun vi _ => n - (intOf vi).toNat)
  case atStart => exact ⟨0, rfl, by omega, rfl, Frm.refl _ _⟩
  case round =>
    obtain ⟨i, rfl, hi, hno, hF⟩ := hrel
    have i0 : (0 : Int) ≤ (i : Int) := Int.natCast_nonneg _
    have HNO := Lib.hid hno
    clear hno
    by_cases hlt : i < n
    · have i1 : (i : Int) < (n : Int) := by omega
      obtain ⟨ad, rfl, -, k0, k1⟩ := (hW.frmN hF) i (by omega)
      have h1 := HC.out i hlt wr hF
      obtain ⟨⟨p, q⟩, hp⟩ : ∃ u, W.getD i (0, 0) = u := ⟨_, rfl⟩
      rw [hp] at k0 k1 h1
      simp only at k0 k1 h1
      obtain ⟨t, ht⟩ : ∃ t, P i = t := ⟨_, rfl⟩
      rw [ht] at h1
      have HT := Lib.hid ht
      clear ht hp
      cases t with
      | true =>
        go_wp2_with fail
        refine h1.mono ?_
        rintro e w2 ⟨rfl, f2⟩
        go_wp2_with fail
        go_ret
        refine ⟨⟨_, rfl, ?_⟩, hF.thenN f2⟩
        rw [decide_eq_true (by omega), eq_comm, List.any_eq_true]
        exact ⟨i, List.mem_range.2 hlt, HT.out⟩
      | false =>
        go_wp2_with fail
        refine h1.mono ?_
        rintro e w2 ⟨rfl, f2⟩
        go_wp2_with fail
        go_roundw
        case rel => exact ⟨i + 1, by go_num, by omega, by rw [List.range_succ, List.any_append, HNO.out]; simp [HT.out], hF.thenN f2⟩
        case measure => simp [intOf]; omega
    · have i1 : ¬ (i : Int) < (n : Int) := by omega
      have hin : i = n := by omega
      subst hin
      go_wp2_with fail
      go_ret
      exact ⟨⟨_, rfl, by rw [HNO.out]; rfl⟩, hF⟩
theorem contains_29 (w : World) (A : Option Addr) (n c : Nat) (pc : Nat) (W : List Wn) (P : Nat → Bool) (hW : RdW w A W) (hn : n ≤ W.length) (hn2 : n ≤ 1000)
    (hc : ∀ j, j < n → ∀ wr, Frm No w wr → Calls Try.prog 29 #[.agg #[.int .i64 (W.getD j (0, 0)).1, .int .i64 (W.getD j (0, 0)).2], .pointer (some ⟨pc, 0, none⟩)] wr fun e w' => e = .returned (.bool (P j)) ∧ Frm No wr w') :
    Calls Try.prog 27 #[.slice A n c, .func (.func 29) #[] #[.pointer (some ⟨pc, 0, none⟩)]] w fun e w' => e = .returned (.bool ((List.range n).any P)) ∧ Frm No w w' := by
  have h := index_29 w A n c pc W P hW hn hn2 hc
  obtain ⟨t, ht⟩ : ∃ t, (List.range n).any P = t := ⟨_, rfl⟩
  rw [ht]
  rw [ht] at h
  clear hc
  go_enter Try.func27, Try.ntmps27
  go_wp2_with fail
  refine h.mono ?_
  rintro e w1 ⟨⟨r, rfl, hr⟩, f1⟩
  go_wp2_with fail
  go_ret
  exact ⟨rfl, f1⟩
set_option maxRecDepth 100000 in
set_option maxHeartbeats 2000000 in
theorem index_30 (w : World) (A : Option Addr) (n c : Nat) (pc : Nat) (W : List Wn) (P : Nat → Bool) (hW : RdW w A W) (hn : n ≤ W.length) (hn2 : n ≤ 1000)
    (hc : ∀ j, j < n → ∀ wr, Frm No w wr → Calls Try.prog 30 #[.agg #[.int .i64 (W.getD j (0, 0)).1, .int .i64 (W.getD j (0, 0)).2], .pointer (some ⟨pc, 0, none⟩)] wr fun e w' => e = .returned (.bool (P j)) ∧ Frm No wr w') :
    Calls Try.prog 32 #[.slice A n c, .func (.func 30) #[] #[.pointer (some ⟨pc, 0, none⟩)]] w fun e w' => (∃ r : Int, e = .returned (.int .i64 r) ∧ (decide (r ≥ 0)) = (List.range n).any P) ∧ Frm No w w' := by
  have HC := Lib.hid hc
  clear hc
  go_enter Try.func32, Try.ntmps32
  go_wp2_with fail
  go_loopw [8] (fun vi wr => ∃ i : Nat, vi = .int .i64 i ∧ i ≤ n ∧ (List.range i).any P = false ∧ Frm No w wr) (fun vi _ => n - (intOf vi).toNat)
  case atStart => exact ⟨0, rfl, by omega, rfl, Frm.refl _ _⟩
  case round =>
    obtain ⟨i, rfl, hi, hno, hF⟩ := hrel
    have i0 : (0 : Int) ≤ (i : Int) := Int.natCast_nonneg _
    have HNO := Lib.hid hno
    clear hno
    by_cases hlt : i < n
    · have i1 : (i : Int) < (n : Int) := by omega
      obtain ⟨ad, rfl, -, k0, k1⟩ := (hW.frmN hF) i (by omega)
      have h1 := HC.out i hlt wr hF
      obtain ⟨⟨p, q⟩, hp⟩ : ∃ u, W.getD i (0, 0) = u := ⟨_, rfl⟩
      rw [hp] at k0 k1 h1
      simp only at k0 k1 h1
      obtain ⟨t, ht⟩ : ∃ t, P i = t := ⟨_, rfl⟩
      rw [ht] at h1
      have HT := Lib.hid ht
      clear ht hp
      cases t with
      | true =>
        go_wp2_with fail
        refine h1.mono ?_
        rintro e w2 ⟨rfl, f2⟩
        go_wp2_with fail
        go_ret
        refine ⟨⟨_, rfl, ?_⟩, hF.thenN f2⟩
        rw [decide_eq_true (by omega), eq_comm, List.any_eq_true]
        exact ⟨i, List.mem_range.2 hlt, HT.out⟩
      | false =>
        go_wp2_with fail
        refine h1.mono ?_
        rintro e w2 ⟨rfl, f2⟩
        go_wp2_with fail
        go_roundw
        case rel => exact ⟨i + 1, by go_num, by omega, by rw [List.range_succ, List.any_append, HNO.out]; simp [HT.out], hF.thenN f2⟩
        case measure => simp [intOf]; omega
    · have i1 : ¬ (i : Int) < (n : Int) := by omega
      have hin : i = n := by omega
      subst hin
      go_wp2_with fail
      go_ret
      exact ⟨⟨_, rfl, by rw [HNO.out]; rfl⟩, hF⟩
theorem contains_30 (w : World) (A : Option Addr) (n c : Nat) (pc : Nat) (W : List Wn) (P : Nat → Bool) (hW : RdW w A W) (hn : n ≤ W.length) (hn2 : n ≤ 1000)
    (hc : ∀ j, j < n → ∀ wr, Frm No w wr → Calls Try.prog 30 #[.agg #[.int .i64 (W.getD j (0, 0)).1, .int .i64 (W.getD j (0, 0)).2], .pointer (some ⟨pc, 0, none⟩)] wr fun e w' => e = .returned (.bool (P j)) ∧ Frm No wr w') :
    Calls Try.prog 27 #[.slice A n c, .func (.func 30) #[] #[.pointer (some ⟨pc, 0, none⟩)]] w fun e w' => e = .returned (.bool ((List.range n).any P)) ∧ Frm No w w' := by
  have h := index_30 w A n c pc W P hW hn hn2 hc
  obtain ⟨t, ht⟩ : ∃ t, (List.range n).any P = t := ⟨_, rfl⟩
  rw [ht]
  rw [ht] at h
  clear hc
  go_enter Try.func27, Try.ntmps27
  go_wp2_with fail
  refine h.mono ?_
  rintro e w1 ⟨⟨r, rfl, hr⟩, f1⟩
  go_wp2_with fail
  go_ret
  exact ⟨rfl, f1⟩
end Go.Proofs.Ytiifepajnhdfjaa.A
