/- What the small functions of the spaces do: Right, Size, Is, ask. -/
import Derived.Test.YthefmklblfjfeaaProg
import Derived.Test.YthefmklblfjfeaaL
import Derived.Test.YthefmklblfjfeaaN
import Derived.Deep.RegionHeld3
import Derived.WalkMore
import Derived.ScopeJumps
namespace Go.Proofs.Ythefmklblfjfeaa.A
open Go.RowKit Go.Proofs.Ythefmklblfjfeaa.K Go.Proofs.Ythefmklblfjfeaa.N
set_option linter.unusedVariables false
set_option linter.unusedSimpArgs false

theorem ret_eq {a b : Value} (h : a = b) : Ending.returned a = .returned b := by rw [h]

set_option maxHeartbeats 400000 in
theorem right_yes (b : Int) (w : World) (h1 : 1 ≤ b) (h2 : b ≤ 16) :
    Calls Try.prog 25 #[.agg #[.int .i64 b]] w fun e w' => e = .returned (.bool true) ∧ Frm No w w' := by
  have hz : (b == 0) = false := by simp; omega
  go_enter Try.func25, Try.ntmps25
  go_wp2
  go_ret
  exact ⟨rfl, (Frm.refl _ _).alloc _⟩

set_option maxHeartbeats 400000 in
theorem right_no (b : Int) (w : World) (h : ¬ (1 ≤ b ∧ b ≤ 16)) :
    Calls Try.prog 25 #[.agg #[.int .i64 b]] w fun e w' => e = .returned (.bool false) ∧ Frm No w w' := by
  by_cases h0 : b = 0
  · subst h0
    go_enter Try.func25, Try.ntmps25
    go_wp2
    go_ret
    exact ⟨rfl, (Frm.refl _ _).alloc _⟩
  · have hz : (b == 0) = false := by simpa using h0
    clear h0
    by_cases h1 : 1 ≤ b
    · have h2 : ¬ b ≤ 16 := by omega
      clear h
      go_enter Try.func25, Try.ntmps25
      go_wp2
      go_ret
      exact ⟨rfl, (Frm.refl _ _).alloc _⟩
    · clear h
      go_enter Try.func25, Try.ntmps25
      go_wp2
      go_ret
      exact ⟨rfl, (Frm.refl _ _).alloc _⟩

theorem right_any (b : Int) (w : World) : Calls Try.prog 25 #[.agg #[.int .i64 b]] w fun e w' => e = .returned (.bool (decide (1 ≤ b ∧ b ≤ 16))) ∧ Frm No w w' := by
  by_cases h : 1 ≤ b ∧ b ≤ 16
  · exact (right_yes b w h.1 h.2).mono fun e w' ⟨he, hf⟩ => ⟨he.trans (by simp [h.1, h.2]), hf⟩
  · exact (right_no b w h).mono fun e w' ⟨he, hf⟩ => ⟨he.trans (by rw [decide_eq_false h]), hf⟩

theorem wrap_sz {b : Int} (h : 1 ≤ b ∧ b ≤ 16) : wrap64 (2 ^ b.toNat) = sz b := by
  rw [← sz_pos h]
  have := sz_range h
  exact IntWalk.wrap64_in _ ⟨by omega, by omega⟩

set_option maxHeartbeats 1000000 in
theorem size_any (b : Int) (w : World) : Calls Try.prog 26 #[.agg #[.int .i64 b]] w fun e w' => e = .returned (.int .i64 (sz b)) ∧ Frm No w w' := by
  by_cases h : 1 ≤ b ∧ b ≤ 16
  · obtain ⟨h1, h2⟩ := id h
    have H := Lib.hid h
    clear h
    go_enter Try.func26, Try.ntmps26
    go_wp2_with fail
    refine (right_yes b _ h1 h2).mono ?_
    rintro e w1 ⟨rfl, f1⟩
    have c0 : w1.cell? ⟨w.heap.size, 0, none⟩ = some (.int .i64 b) := (f1.blk (Blk.new _ _ _) (fun h => h)).cell 0
    go_wp2_with fail
    go_ret
    exact ⟨ret_eq (congrArg _ (wrap_sz H.out)), ((Frm.refl _ _).alloc _).thenN f1⟩
  · have hs := sz_zero h
    have H := Lib.hid h
    clear h
    go_enter Try.func26, Try.ntmps26
    go_wp2_with fail
    refine (right_no b _ H.out).mono ?_
    rintro e w1 ⟨rfl, f1⟩
    go_wp2_with fail
    go_ret
    rw [hs]
    exact ⟨rfl, ((Frm.refl _ _).alloc _).thenN f1⟩

set_option maxHeartbeats 1000000 in
theorem is_any (b n : Int) (w : World) : Calls Try.prog 37 #[.agg #[.int .i64 b], .int .i64 n] w fun e w' => e = .returned (.bool (decide (0 ≤ n ∧ n < sz b))) ∧ Frm No w w' := by
  by_cases h0 : 0 ≤ n
  · go_enter Try.func37, Try.ntmps37
    go_wp2_with fail
    refine (size_any b _).mono ?_
    rintro e w1 ⟨rfl, f1⟩
    go_wp2_with fail
    go_ret
    exact ⟨ret_eq (by simp [h0]), ((Frm.refl _ _).alloc _).thenN f1⟩
  · go_enter Try.func37, Try.ntmps37
    go_wp2_with fail
    go_ret
    exact ⟨ret_eq (by rw [decide_eq_false (show ¬ 0 ≤ n by omega)]; rfl), (Frm.refl _ _).alloc _⟩

theorem is_yes (b n : Int) (w : World) (h : 0 ≤ n ∧ n < sz b) : Calls Try.prog 37 #[.agg #[.int .i64 b], .int .i64 n] w fun e w' => e = .returned (.bool true) ∧ Frm No w w' :=
  (is_any b n w).mono fun e w' ⟨he, hf⟩ => ⟨he.trans (by rw [decide_eq_true h]), hf⟩
theorem is_no (b n : Int) (w : World) (h : ¬ (0 ≤ n ∧ n < sz b)) : Calls Try.prog 37 #[.agg #[.int .i64 b], .int .i64 n] w fun e w' => e = .returned (.bool false) ∧ Frm No w w' :=
  (is_any b n w).mono fun e w' ⟨he, hf⟩ => ⟨he.trans (by rw [decide_eq_false h]), hf⟩

/-- What ask answers of a list of numbers. -/
def askS (b : Int) (l : List Int) : Int := if 1 ≤ b ∧ b ≤ 16 then (if ∀ z ∈ l, 0 ≤ z ∧ z < sz b then 0 else 1) else 3

set_option maxHeartbeats 1000000 in
theorem ask_no (b : Int) (A : Option Addr) (n c : Nat) (w : World) (h : ¬ (1 ≤ b ∧ b ≤ 16)) :
    Calls Try.prog 35 #[.agg #[.int .i64 b], .slice A n c] w fun e w' => e = .returned (.int .i64 3) ∧ Frm No w w' := by
  go_enter Try.func35, Try.ntmps35
  go_wp2_with fail
  go_step3
  go_wp2_with fail
  refine (right_no b _ h).mono ?_
  rintro e w1 ⟨rfl, f1⟩
  go_wp2_with fail
  rw [Exit.noGoto_ret]
  go_ret
  exact ⟨rfl, ((Frm.refl _ _).alloc _).thenN f1⟩

/-- A slice that reads as a list of ints. -/
def Nums (w : World) (A : Option Addr) (n : Nat) (zs : List Int) : Prop :=
  zs.length = n ∧ ∀ j, j < n → ∃ ad, A = some ad ∧ ad.block < w.heap.size ∧ w.cell? (ad.add j) = some (.int .i64 (zs.getD j 0))
theorem nums_one {w : World} {g : Nat} {a : Int} (h : Blk w g #[.int .i64 a] 3) : Nums w (some ⟨g, 0, none⟩) 1 [a] :=
  ⟨rfl, fun j hj => ⟨_, rfl, h.lt, by
    obtain rfl : j = 0 := by omega
    exact h.cell 0⟩⟩
theorem nums_two {w : World} {g : Nat} {a b : Int} (h : Blk w g #[.int .i64 a, .int .i64 b] 3) : Nums w (some ⟨g, 0, none⟩) 2 [a, b] :=
  ⟨rfl, fun j hj => ⟨_, rfl, h.lt, by
    rcases (show j = 0 ∨ j = 1 by omega) with rfl | rfl
    · exact h.cell 0
    · exact h.cell 1⟩⟩

set_option maxRecDepth 100000 in
set_option maxHeartbeats 2000000 in
theorem ask_yes (b : Int) (A : Option Addr) (n c : Nat) (zs : List Int) (w : World) (h1 : 1 ≤ b) (h2 : b ≤ 16) (hI : Nums w A n zs) (hn : n ≤ 1000) :
    Calls Try.prog 35 #[.agg #[.int .i64 b], .slice A n c] w fun e w' => e = .returned (.int .i64 (if ∀ z ∈ zs, 0 ≤ z ∧ z < sz b then 0 else 1)) ∧ Frm No w w' := by
  go_enter Try.func35, Try.ntmps35
  go_wp2_with fail
  refine wp_scope_jumps 0 (fun a' w' => ∃ (k : Nat) (u6 u7 u8 u9 u10 u11 u12 u13 u14 u15 u16 u17 u18 u19 u20 u21 : Value), a' = { tmps := #[.agg #[.int .i64 b], .slice A n c, .pointer (some ⟨w.heap.size, 0, none⟩), undef, .int .i64 0, .int .i64 k, u6, u7, u8, u9, u10, u11, u12, u13, u14, u15, u16, u17, u18, u19, u20, u21], defers := [] } ∧ 1 ≤ k ∧ k ≤ n ∧ (∀ j, j < k → 0 ≤ zs.getD j 0 ∧ zs.getD j 0 < sz b) ∧ Blk w' w.heap.size #[.int .i64 b] 50 ∧ Frm No w w')
    (fun a' _ => n - (intOf (a'.tmps.getD 5 undef)).toNat) rfl ?_ ?_
  · go_wp2_with fail
    refine (right_yes b _ h1 h2).mono ?_
    rintro e w1 ⟨rfl, f1⟩
    have hB := f1.blk (Blk.new w #[.int .i64 b] 50) (fun h => h)
    have hF := ((Frm.refl No w).alloc (.cells #[.int .i64 b] 50)).thenN f1
    clear f1
    by_cases hlt : 0 < n
    · go_wp2_with fail
      go_step3
      go_wp2_with fail
      obtain ⟨ad, rfl, hbk, hc⟩ := hI.2 _ hlt
      have hcz : w1.cell? ad = some (.int .i64 (zs.getD 0 0)) := (World.cell?_of_block (hF.block _ (by exact hbk) (fun h => h))).trans hc
      have hc0 : w1.cell? ⟨w.heap.size, 0, none⟩ = some (.int .i64 b) := hB.cell 0
      have hbk1 : ad.block < w1.heap.size := Nat.lt_of_lt_of_le hbk hF.size
      clear hc
      obtain ⟨z, hz⟩ : ∃ z, z = zs.getD 0 0 := ⟨_, rfl⟩
      rw [← hz] at hcz
      have HZ := Lib.hid hz
      clear hz
      by_cases hg : 0 ≤ z ∧ z < sz b
      · have HGG := Lib.hid hg
        clear hg
        go_region_held3 (fun w' => w'.cell? ⟨w.heap.size, 0, none⟩ = some (.int .i64 b) ∧ w'.cell? ad = some (.int .i64 z))
          (first | go_keep)
          (first | (go_at_call 37; refine (is_yes b z _ HGG.out).mono ?_; rintro e w2 ⟨rfl, f2⟩; have hB2 := f2.blk (by exact hB) (fun h => h); have hc2 : w2.cell? ⟨w.heap.size, 0, none⟩ = some (.int .i64 b) := hB2.cell 0; have hcz2 : w2.cell? ad = some (.int .i64 z) := (World.cell?_of_block (f2.block _ (by exact hbk1) (fun h => h))).trans hcz))
        have hF2 : Frm No w w2 := Frm.thenN hF.drew f2
        go_wp2_with fail
        try go_step3
        refine ⟨rfl, 1, _, _, _, _, _, _, _, _, _, _, _, _, _, _, _, _, rfl, by omega, by omega, fun j hj => ?_, hB2, hF2⟩
        rw [show j = 0 by omega, ← HZ.out]
        exact HGG.out
      · have hx : ¬ ∀ z ∈ zs, 0 ≤ z ∧ z < sz b := fun hall => hg (by
          have := hall (zs.getD 0 0) (by
            have hl : 0 < zs.length := by have := hI.1; omega
            rw [List.getD_eq_getElem?_getD, List.getElem?_eq_getElem hl]; exact List.getElem_mem _)
          rwa [← HZ.out] at this)
        have HX := Lib.hid hx
        have HGG := Lib.hid hg
        clear hx hg
        go_region_held3 (fun w' => w'.cell? ⟨w.heap.size, 0, none⟩ = some (.int .i64 b) ∧ w'.cell? ad = some (.int .i64 z))
          (first | go_keep)
          (first | (go_at_call 37; refine (is_no b z _ HGG.out).mono ?_; rintro e w2 ⟨rfl, f2⟩; have hB2 := f2.blk (by exact hB) (fun h => h); have hc2 : w2.cell? ⟨w.heap.size, 0, none⟩ = some (.int .i64 b) := hB2.cell 0; have hcz2 : w2.cell? ad = some (.int .i64 z) := (World.cell?_of_block (f2.block _ (by exact hbk1) (fun h => h))).trans hcz))
        have hF2 : Frm No w w2 := Frm.thenN hF.drew f2
        go_wp2_with fail
        simp only [Exit.jump]
        go_ret
        exact ⟨ret_eq (by rw [if_neg HX.out]; rfl), hF2⟩
    · have hn0 : n = 0 := by omega
      have hz : zs = [] := List.eq_nil_of_length_eq_zero (hI.1.trans hn0)
      go_wp2_with fail
      go_step3
      go_wp2_with fail
      simp only [Exit.jump]
      go_ret
      exact ⟨ret_eq (by rw [if_pos (by rw [hz]; simp)]; rfl), hF⟩
  · rintro a' wr ⟨k, u6, u7, u8, u9, u10, u11, u12, u13, u14, u15, u16, u17, u18, u19, u20, u21, rfl, hk1, hk, hgood, hB, hF⟩
    by_cases hlt : k < n
    · go_wp2_with fail
      obtain ⟨ad, rfl, hbk, hc⟩ := hI.2 _ hlt
      have hcz : wr.cell? (ad.add k) = some (.int .i64 (zs.getD k 0)) := (World.cell?_of_block (hF.block _ (by rw [block_add]; exact hbk) (fun h => h))).trans hc
      have hc0 : wr.cell? ⟨w.heap.size, 0, none⟩ = some (.int .i64 b) := hB.cell 0
      have hbk1 : ad.block < wr.heap.size := Nat.lt_of_lt_of_le hbk hF.size
      clear hc
      obtain ⟨z, hz⟩ : ∃ z, z = zs.getD k 0 := ⟨_, rfl⟩
      rw [← hz] at hcz
      have HZ := Lib.hid hz
      clear hz
      by_cases hg : 0 ≤ z ∧ z < sz b
      · have HGG := Lib.hid hg
        clear hg
        go_region_held3 (fun w' => w'.cell? ⟨w.heap.size, 0, none⟩ = some (.int .i64 b) ∧ w'.cell? (ad.add k) = some (.int .i64 z))
          (first | go_keep)
          (first | (go_at_call 37; refine (is_yes b z _ HGG.out).mono ?_; rintro e w2 ⟨rfl, f2⟩; have hB2 := f2.blk (by exact hB) (fun h => h); have hc2 : w2.cell? ⟨w.heap.size, 0, none⟩ = some (.int .i64 b) := hB2.cell 0; have hcz2 : w2.cell? (ad.add k) = some (.int .i64 z) := (World.cell?_of_block (f2.block _ (by rw [block_add]; exact hbk1) (fun h => h))).trans hcz))
        have hF2 : Frm No w w2 := Frm.thenN hF.drew f2
        go_wp2_with fail
        try go_step3
        refine ⟨rfl, ⟨k + 1, _, _, _, _, _, _, _, _, _, _, _, _, _, _, _, _, rfl, by omega, by omega, fun j hj => ?_, hB2, hF2⟩, ?_⟩
        · by_cases hjk : j = k
          · rw [hjk, ← HZ.out]
            exact HGG.out
          · exact hgood j (by omega)
        · simp [intOf]
          omega
      · have hx : ¬ ∀ z ∈ zs, 0 ≤ z ∧ z < sz b := fun hall => hg (by
          have := hall (zs.getD k 0) (by
            have hl : k < zs.length := by have := hI.1; omega
            rw [List.getD_eq_getElem?_getD, List.getElem?_eq_getElem hl]; exact List.getElem_mem _)
          rwa [← HZ.out] at this)
        have HX := Lib.hid hx
        have HGG := Lib.hid hg
        clear hx hg
        go_region_held3 (fun w' => w'.cell? ⟨w.heap.size, 0, none⟩ = some (.int .i64 b) ∧ w'.cell? (ad.add k) = some (.int .i64 z))
          (first | go_keep)
          (first | (go_at_call 37; refine (is_no b z _ HGG.out).mono ?_; rintro e w2 ⟨rfl, f2⟩; have hB2 := f2.blk (by exact hB) (fun h => h); have hc2 : w2.cell? ⟨w.heap.size, 0, none⟩ = some (.int .i64 b) := hB2.cell 0; have hcz2 : w2.cell? (ad.add k) = some (.int .i64 z) := (World.cell?_of_block (f2.block _ (by rw [block_add]; exact hbk1) (fun h => h))).trans hcz))
        have hF2 : Frm No w w2 := Frm.thenN hF.drew f2
        go_wp2_with fail
        simp only [Exit.jump]
        go_ret
        exact ⟨ret_eq (by rw [if_neg HX.out]; rfl), hF2⟩
    · have hall : ∀ z ∈ zs, 0 ≤ z ∧ z < sz b := fun z hz => by
        obtain ⟨j, hj, rfl⟩ := List.getElem_of_mem hz
        have := hgood j (by have := hI.1; omega)
        rwa [List.getD_eq_getElem?_getD, List.getElem?_eq_getElem hj] at this
      have HA := Lib.hid hall
      clear hall hgood
      go_wp2_with fail
      simp only [Exit.jump]
      go_ret
      exact ⟨ret_eq (by rw [if_pos HA.out]; rfl), hF⟩

theorem ask_any (b : Int) (A : Option Addr) (n c : Nat) (zs : List Int) (w : World) (hI : Nums w A n zs) (hn : n ≤ 1000) :
    Calls Try.prog 35 #[.agg #[.int .i64 b], .slice A n c] w fun e w' => e = .returned (.int .i64 (askS b zs)) ∧ Frm No w w' := by
  unfold askS
  by_cases h : 1 ≤ b ∧ b ≤ 16
  · rw [if_pos h]
    exact ask_yes b A n c zs w h.1 h.2 hI hn
  · rw [if_neg h]
    exact ask_no b A n c w h
end Go.Proofs.Ythefmklblfjfeaa.A
