/- The writer of bits: New, one. -/
import Derived.Test.YtccaaldfccgncaaN
namespace Go.Proofs.Ytccaaldfccgncaa.A
open Go.RowKit Go.Proofs.Ytccaaldfccgncaa.K
set_option linter.unusedVariables false
set_option linter.unusedSimpArgs false

theorem own_put1 {w : World} {B e n c : Nat} {A : Option Addr} {xs : List Value} (h : w.ownsRow B e 1 (.slice A n c) n xs) {j : Nat} (hj : j < n) (u : Value) :
    ∃ ad, A = some ad ∧ (∃ cs, Blk w ad.block cs e) ∧ w.cell? (ad.add j) = xs[j]? ∧ w.frozen? (ad.add j) = false ∧ (w.setCell (ad.add j) u).ownsRow B e 1 (.slice A n c) n (xs.set j u) := by
  obtain ⟨hl, h2⟩ := h
  rcases h2 with ⟨h0, h1⟩ | ⟨gk, cap, cur, hv, hg, hh, h3, h4, h5, h6⟩
  · subst h1; omega
  · simp only [Value.slice.injEq] at hv
    obtain ⟨rfl, -, rfl⟩ := hv
    have hb : Blk w gk cur e := hh
    have ea : (⟨gk, 0, none⟩ : Addr).add j = ⟨gk, j, none⟩ := by unfold Addr.add; by_cases h0 : j = 0 <;> simp [h0]
    refine ⟨_, rfl, ⟨cur, hb⟩, ?_, by rw [ea]; exact hb.free j, ?_⟩
    · rw [ea, hb.cell, ← h6, List.getElem?_take_of_lt (by omega), Array.getElem?_toList]
    · rw [ea]
      refine ⟨by rw [List.length_set]; exact hl, .inr ⟨gk, c, cur.setIfInBounds j u, rfl, hg, hb.set j u, h3, h4, by rw [Array.size_setIfInBounds]; exact h5, ?_⟩⟩
      rw [Array.toList_setIfInBounds, List.take_set, h6]
/-- A writer: its bits; its row is the call's own, from B on. -/
def IsWr (w : World) (g B : Nat) (bs : List Nat) : Prop := ∃ v, Blk w g #[v, .int .i64 bs.length] 135 ∧ RowB w B v (pk bs) ∧ Bits bs
/-- What was there ahead of the writer is as it was. -/
structure Past (w w' : World) (g B : Nat) : Prop where
  frm : ∀ (S : Nat → Prop) (w0 : World), Frm S w0 w → w0.heap.size ≤ g → w0.heap.size ≤ B → Frm S w0 w'
  size : w.heap.size ≤ w'.heap.size
theorem Past.trans {w w' w'' : World} {g B : Nat} (h : Past w w' g B) (k : Past w' w'' g B) : Past w w'' g B := ⟨fun S w0 f h1 h2 => k.frm S w0 (h.frm S w0 f h1 h2) h1 h2, Nat.le_trans h.size k.size⟩
theorem Past.of {w w' : World} {g B : Nat} {S1 : Nat → Prop} (f : Frm S1 w w') (h : ∀ x, S1 x → x = g ∨ B ≤ x) : Past w w' g B := ⟨fun S w0 f0 h1 h2 => f0.then f fun x hx => .inr (by rcases h x hx with rfl | h <;> omega), f.size⟩
theorem Past.refl (w : World) (g B : Nat) : Past w w g B := ⟨fun _ _ f _ _ => f, Nat.le_refl _⟩
set_option maxRecDepth 100000 in
set_option maxHeartbeats 2000000 in
theorem wr_new (w : World) : Calls Try.prog 45 #[] w fun e w' => e = .returned (.pointer (some ⟨w.heap.size, 0, none⟩)) ∧ IsWr w' w.heap.size (w.heap.size + 1) [] ∧ Frm No w w' := by
  go_enter Try.func45, Try.ntmps45
  go_wp2_with fail
  go_ret
  exact ⟨rfl, ⟨_, Blk.new _ _ _, World.ownsRow_nil _ _ _ _, fun x h => by cases h⟩, (Frm.refl No w).alloc _⟩
/-- The second half of 'one'. -/
theorem RowB.put {w : World} {B n c : Nat} {A : Option Addr} {L : List Nat} (h : RowB w B (.slice A n c) L) (hn : L.length = n) {j : Nat} (hj : j < n) (x : Nat) :
    ∃ ad, A = some ad ∧ (∃ cs, Blk w ad.block cs 5) ∧ w.cell? (ad.add j) = some (.int .u8 (L.getD j 0 : Nat)) ∧ w.frozen? (ad.add j) = false ∧ RowB (w.setCell (ad.add j) (.int .u8 (x : Nat))) B (.slice A n c) (L.set j x) ∧ B ≤ ad.block := by
  unfold RowB at h
  rw [hn] at h
  obtain ⟨ad, rfl, hb, hc, hz, ho⟩ := own_put1 h hj (by8 x)
  have hB := (own_blk h rfl).1
  refine ⟨ad, rfl, hb, ?_, hz, ?_, hB⟩
  · rw [hc, List.getElem?_map, List.getElem?_eq_getElem (by omega), List.getD_eq_getElem?_getD, List.getElem?_eq_getElem (by omega)]; rfl
  · unfold RowB
    rw [List.length_set, hn, List.map_set]
    exact ho
set_option maxRecDepth 100000 in
set_option maxHeartbeats 8000000 in
theorem one_is (w : World) (g B b : Nat) (bs : List Nat) (h : IsWr w g B bs) (hb : b ≤ 1) (hB : B ≤ w.heap.size) (hn : bs.length ≤ 60000) :
    Calls Try.prog 76 #[.pointer (some ⟨g, 0, none⟩), .int .u8 b] w fun e w' => e = .returned (.tuple #[]) ∧ IsWr w' g B (bs ++ [b]) ∧ Past w w' g B := by
  obtain ⟨v, hbk, hr, hbits⟩ := h
  obtain ⟨n, hnn⟩ : ∃ n, bs.length = n := ⟨_, rfl⟩
  obtain ⟨l, hl⟩ : ∃ l, (pk bs).length = l := ⟨_, rfl⟩
  obtain ⟨A0, c0, rfl, hc0, -⟩ := hr.outn hl
  rw [hnn] at hbk hn
  have hll : l = (n + 7) / 8 := by rw [← hl, pk_len, hnn]
  have k0 : w.cell? ⟨g, 0, none⟩ = some (.slice A0 l c0) := hbk.cell 0
  have k1 : w.cell? ⟨g, 1, none⟩ = some (.int .i64 n) := hbk.cell 1
  have z0 : w.frozen? ⟨g, 0, none⟩ = false := hbk.free 0
  have hgl := hbk.lt
  obtain ⟨r, hrr⟩ : ∃ r : Nat, n % 8 = r := ⟨_, rfl⟩
  obtain ⟨j, hjj⟩ : ∃ j : Nat, n / 8 = j := ⟨_, rfl⟩
  have e1 : (n : Int).tmod 8 = (r : Int) := by rw [Int.tmod_eq_emod_of_nonneg (by omega)]; omega
  have e1' : (n : Int) % 8 = (r : Int) := by omega
  have e2 : (n : Int).tdiv 8 = (j : Int) := by rw [Int.tdiv_eq_ediv_of_nonneg (by omega)]; omega
  have e2' : (n : Int) / 8 = (j : Int) := by omega
  have r7 : r < 8 := by omega
  have H := Lib.hid (And.intro hbk (And.intro hr (And.intro hbits (And.intro hnn (And.intro hl (And.intro hll (And.intro hrr hjj)))))))
  clear hbk hr hbits hnn hl hll hrr hjj
  by_cases hr0 : r = 0
  · have rz : ((r : Int) == 0) = true := by rw [beq_iff_eq]; omega
    have hpr : pkr bs = pk bs ++ [0] := by unfold pkr; rw [if_pos (by rw [H.out.2.2.2.1, H.out.2.2.2.2.2.2.1]; exact hr0)]
    have hlj : j = l := by have := H.out; omega
    subst hlj
    obtain ⟨i0, hi, hz0, hz1, hz2⟩ := info_parts info5
    have own0 := H.out.2.1
    unfold RowB at own0
    rw [H.out.2.2.2.2.1] at own0
    have own1 := World.ownsRow.alloc own0 (.cells #[.int .u8 0] 5)
    have hrd : Rds (w.alloc (.cells #[.int .u8 0] 5)) 1 (some ⟨w.heap.size, 0, none⟩) 1 [.int .u8 0] := by
      have hb : Blk (w.alloc (.cells #[.int .u8 0] 5)) w.heap.size #[.int .u8 0] 5 := Blk.new w #[.int .u8 0] 5
      refine ⟨rfl, fun _ => ⟨_, rfl, hb.lt, fun i u hu => ?_⟩⟩
      have ea : (⟨w.heap.size, 0, none⟩ : Addr).add i = ⟨w.heap.size, i, none⟩ := by unfold Addr.add; by_cases h0 : i = 0 <;> simp [h0]
      rw [ea, hb.cell, List.getElem?_toArray]
      exact hu
    have hsz : B ≤ (w.alloc (.cells #[.int .u8 0] 5)).heap.size := Nat.le_trans hB ((Frm.refl No w).alloc _).size
    have HR := Lib.hid (And.intro hpr hr0)
    have hl9 : j ≤ 10000 := by omega
    clear hpr hr0 own0
    go_enter Try.func76, Try.ntmps76
    go_upto_region 2 with (at_builtin; go_must (refine wpList_append_rds _ rfl _ _ 24 rfl B 5 i0 _ 1 1 Try.underlying24 hi hz0 hz1 hz2 rfl (by omega) (.slice A0 j c0) j ((pk bs).map by8) rfl own1 (some ⟨w.heap.size, 0, none⟩) 1 1 [.int .u8 0] rfl hrd (by simp [Value.oneCell']) (by unfold maxLen; omega) (by omega) hsz ?_; intro v4 w4 own4 hg4; have FA := ((Frm.refl (fun x => (Value.slice A0 j c0).ownBlock = some x) w).alloc (.cells #[.int .u8 0] 5)).grown hg4 (fun k e => .inl e); have hnb : ∀ x cs, Blk w x cs 135 → ¬ ((Value.slice A0 j c0).ownBlock = some x) := (fun x cs hx e => (by obtain ⟨_, cs', hb'⟩ := own_blk own1 e; exact Blk.ne (hx.alloc (.cells #[.int .u8 0] 5)) hb' (by decide) rfl)); have hb4 := FA.blk H.out.1 (hnb _ _ H.out.1); have z04 : w4.frozen? ⟨g, 0, none⟩ = false := hb4.free 0; have y04 : w4.cell? ⟨g, 0, none⟩ = some (.slice A0 j c0) := hb4.cell 0; have hgl4 := hb4.lt; obtain ⟨A4, c4, rfl, -, -⟩ := own_is own4))
    have F5 : Frm (fun t => t = g) w4 (w4.setCell ⟨g, 0, none⟩ (.slice A4 (j + 1) c4)) := (Frm.refl (fun t => t = g) w4).self 0 _
    have R5 : RowB (w4.setCell ⟨g, 0, none⟩ (.slice A4 (j + 1) c4)) B (.slice A4 (j + 1) c4) (pk bs ++ [0]) := by
      have := own_frm own4 F5 (fun x cs hx e => by subst e; exact Blk.ne hx hb4 (by decide) rfl)
      unfold RowB
      rw [List.length_append, H.out.2.2.2.2.1, List.map_append]
      exact this
    have B5 := hb4.set 0 (.slice A4 (j + 1) c4)
    have P5 : Past w (w4.setCell ⟨g, 0, none⟩ (.slice A4 (j + 1) c4)) g B := (Past.of FA (fun x hx => .inr (own_blk own1 hx).1)).trans (Past.of F5 (fun x hx => .inl hx))
    obtain ⟨w5, hw5⟩ : ∃ w5, w4.setCell ⟨g, 0, none⟩ (.slice A4 (j + 1) c4) = w5 := ⟨_, rfl⟩
    rw [hw5] at R5 B5 P5
    try rw [hw5]
    obtain ⟨m, hm⟩ : ∃ m, j + 1 = m := ⟨_, rfl⟩
    have HMJ := Lib.hid hm
    rw [hm] at R5 B5 ⊢
    clear hm
    rw [← HR.out.1] at R5
    have HX := Lib.hid (And.intro B5 (And.intro R5 P5))
    clear R5 B5 P5 F5 FA hnb hb4 z04 y04 hgl4 own4 hg4 hw5 own1 hrd hsz k0 k1 z0 hgl hi hz0 hz1 hz2
    obtain ⟨ad, rfl, ⟨cs5, hb5⟩, k2, z2, R5, hB5⟩ := RowB.put HX.out.2.1 (by rw [pkr_len, H.out.2.2.2.1, H.out.2.2.2.2.2.2.2, HMJ.out]) (j := j) (by have := HMJ.out; omega) (pkB bs j + b * 2 ^ (7 - r))
    rw [pkr_getD bs (by rw [H.out.2.2.2.1, H.out.2.2.2.2.2.2.2]; omega)] at k2
    obtain ⟨x, hx⟩ : ∃ x, pkB bs j = x := ⟨_, rfl⟩
    obtain ⟨s, hs⟩ : ∃ s : Nat, 7 - r = s := ⟨_, rfl⟩
    have hpush := pk_push bs b
    have hmod := pkB_mod bs
    have hx256 := pkB_lt H.out.2.2.1 j
    rw [H.out.2.2.2.1, H.out.2.2.2.2.2.2.1, H.out.2.2.2.2.2.2.2, hx, hs] at hpush
    rw [H.out.2.2.2.1, H.out.2.2.2.2.2.2.1, H.out.2.2.2.2.2.2.2, hx, hs] at hmod
    rw [hx] at k2 hx256 R5
    rw [hs] at R5
    have hor := or8 (x := x) (s := s) (b := b) hx256 (by omega) hb hmod
    obtain ⟨q, hq⟩ : ∃ q : Nat, b * 2 ^ s = q := ⟨_, rfl⟩
    have hq8 : q < 256 := by
      rw [← hq]
      have h1 : 2 ^ s ≤ 2 ^ 7 := Nat.pow_le_pow_right (by decide) (by omega)
      have h2 : b * 2 ^ s ≤ 1 * 2 ^ s := Nat.mul_le_mul_right _ hb
      omega
    have hsh : IntKind.u8.wrap ((b : Int) * 2 ^ s) = (q : Int) := by
      have : ((b : Int) * 2 ^ s) = (q : Int) := by rw [← hq]; push_cast; rfl
      rw [this]
      exact IntWalk.u8_in _ ⟨by omega, by omega⟩
    rw [hq] at hor R5 hpush
    obtain ⟨y, hy⟩ : ∃ y : Nat, x + q = y := ⟨_, rfl⟩
    rw [hy] at hor R5 hpush
    rw [← hpush] at R5
    have jl : (j : Int) < (m : Int) := by have := HMJ.out; omega
    have jm : j < m := by have := HMJ.out; omega
    have j0 : (0 : Int) ≤ (j : Int) := Int.natCast_nonneg _
    have pwj : IntKind.i64.wrap (j : Int) = (j : Int) := IntWalk.i64_in _ ⟨by omega, by omega⟩
    have hsr : (7 : Int) - (r : Int) = (s : Int) := by omega
    have pws : IntKind.i64.wrap (s : Int) = (s : Int) := IntWalk.i64_in _ ⟨by omega, by omega⟩
    have s0 : (0 : Int) ≤ (s : Int) := Int.natCast_nonneg _
    have s8 : (s : Int) < 8 := by omega
    have hne : g ≠ ad.block := fun e => by have := HX.out.1; rw [e] at this; exact Blk.ne this hb5 (by decide) rfl
    have B6 := (HX.out.1.other (a := ad.add j) (by rw [block_add]; exact hne) (.int .u8 (y : Nat)))
    have k1' : w5.cell? ⟨g, 1, none⟩ = some (.int .i64 (n : Int)) := HX.out.1.cell 1
    have k0' : w5.cell? ⟨g, 0, none⟩ = some (.slice (some ad) m c4) := HX.out.1.cell 0
    have F6 : Frm (fun t => t = ad.block) w5 (w5.setCell (ad.add j) (.int .u8 (y : Nat))) := (Frm.refl (fun t => t = ad.block) w5).set (.inl (by rw [block_add])) _
    have H6 := Lib.hid (And.intro R5 (And.intro B6 (And.intro F6 hB5)))
    clear hs hq hy hx hpush hmod hx256 R5 B6 F6 hB5 hne hb5
    refine wp_region_N (S := fun w' => w'.cell? ⟨g, 0, none⟩ = some (.slice (some ad) m c4) ∧ w'.cell? ⟨g, 1, none⟩ = some (.int .i64 n) ∧ w'.cell? (ad.add j) = some (.int .u8 x)) 21 (by kernel_rfl) ⟨k0', k1', k2⟩ (fun hHeld => ?_)
    refine wpAnyN_take (i := 0) (v := ?rnv76r2_0) rfl (by kernel_rfl) (by kernel_rfl) (by kernel_rfl) (fun _ _ _ h => h) (by decide) (by kernel_rfl) (Or.inl ⟨by rfl, ?rny76r2_0⟩) (by assumption) ?rnr76r2_0
    case rny76r2_0 => (intro w hSw; (try dsimp only at hSw); go_simp; try with_reducible rfl)
    try simp only [Act.put, List.setIfInBounds_toArray, List.set_cons_zero, List.set_cons_succ, List.getElem_toArray, List.getElem_cons_zero, List.getElem_cons_succ]
    refine wpAnyN_take (i := 1) (v := ?rnv76r2_1) rfl (by kernel_rfl) (by kernel_rfl) (by kernel_rfl) (fun _ _ _ h => h) (by decide) (by kernel_rfl) (Or.inl ⟨by rfl, ?rny76r2_1⟩) (by assumption) ?rnr76r2_1
    case rny76r2_1 => (intro w hSw; (try dsimp only at hSw); go_simp; try with_reducible rfl)
    try simp only [Act.put, List.setIfInBounds_toArray, List.set_cons_zero, List.set_cons_succ, List.getElem_toArray, List.getElem_cons_zero, List.getElem_cons_succ]
    refine wpAnyN_take (i := 2) (v := ?rnv76r2_2) rfl (by kernel_rfl) (by kernel_rfl) (by kernel_rfl) (fun _ _ _ h => h) (by decide) (by kernel_rfl) (Or.inl ⟨by rfl, ?rny76r2_2⟩) (by assumption) ?rnr76r2_2
    case rny76r2_2 => (intro w hSw; (try dsimp only at hSw); go_simp; try with_reducible rfl)
    try simp only [Act.put, List.setIfInBounds_toArray, List.set_cons_zero, List.set_cons_succ, List.getElem_toArray, List.getElem_cons_zero, List.getElem_cons_succ]
    refine wpAnyN_take (i := 3) (v := ?rnv76r2_3) rfl (by kernel_rfl) (by kernel_rfl) (by kernel_rfl) (fun _ _ _ h => h) (by decide) (by kernel_rfl) (Or.inl ⟨by rfl, ?rny76r2_3⟩) (by assumption) ?rnr76r2_3
    case rny76r2_3 => (intro w hSw; (try dsimp only at hSw); go_simp; try with_reducible rfl)
    try simp only [Act.put, List.setIfInBounds_toArray, List.set_cons_zero, List.set_cons_succ, List.getElem_toArray, List.getElem_cons_zero, List.getElem_cons_succ]
    refine wpAnyN_take (i := 4) (v := ?rnv76r2_4) rfl (by kernel_rfl) (by kernel_rfl) (by kernel_rfl) (fun _ _ _ h => h) (by decide) (by kernel_rfl) (Or.inl ⟨by rfl, ?rny76r2_4⟩) (by assumption) ?rnr76r2_4
    case rny76r2_4 => (intro w hSw; (try dsimp only at hSw); go_simp; try with_reducible rfl)
    try simp only [Act.put, List.setIfInBounds_toArray, List.set_cons_zero, List.set_cons_succ, List.getElem_toArray, List.getElem_cons_zero, List.getElem_cons_succ]
    refine wpAnyN_take (i := 5) (v := ?rnv76r2_5) rfl (by kernel_rfl) (by kernel_rfl) (by kernel_rfl) (fun _ _ _ h => h) (by decide) (by kernel_rfl) (Or.inl ⟨by rfl, ?rny76r2_5⟩) (by assumption) ?rnr76r2_5
    case rny76r2_5 => (intro w hSw; (try dsimp only at hSw); go_simp; try with_reducible rfl)
    try simp only [Act.put, List.setIfInBounds_toArray, List.set_cons_zero, List.set_cons_succ, List.getElem_toArray, List.getElem_cons_zero, List.getElem_cons_succ]
    refine wpAnyN_take (i := 6) (v := ?rnv76r2_6) rfl (by kernel_rfl) (by kernel_rfl) (by kernel_rfl) (fun _ _ _ h => h) (by decide) (by kernel_rfl) (Or.inl ⟨by rfl, ?rny76r2_6⟩) (by assumption) ?rnr76r2_6
    case rny76r2_6 => (intro w hSw; (try dsimp only at hSw); go_simp; try with_reducible rfl)
    try simp only [Act.put, List.setIfInBounds_toArray, List.set_cons_zero, List.set_cons_succ, List.getElem_toArray, List.getElem_cons_zero, List.getElem_cons_succ]
    refine wpAnyN_take (i := 7) (v := ?rnv76r2_7) rfl (by kernel_rfl) (by kernel_rfl) (by kernel_rfl) (fun _ _ _ h => h) (by decide) (by kernel_rfl) (Or.inl ⟨by rfl, ?rny76r2_7⟩) (by assumption) ?rnr76r2_7
    case rny76r2_7 => (intro w hSw; (try dsimp only at hSw); go_simp; try with_reducible rfl)
    try simp only [Act.put, List.setIfInBounds_toArray, List.set_cons_zero, List.set_cons_succ, List.getElem_toArray, List.getElem_cons_zero, List.getElem_cons_succ]
    refine wpAnyN_take (i := 8) (v := ?rnv76r2_8) rfl (by kernel_rfl) (by kernel_rfl) (by kernel_rfl) (fun _ _ _ h => h) (by decide) (by kernel_rfl) (Or.inl ⟨by rfl, ?rny76r2_8⟩) (by assumption) ?rnr76r2_8
    case rny76r2_8 => (intro w hSw; (try dsimp only at hSw); go_simp; try with_reducible rfl)
    try simp only [Act.put, List.setIfInBounds_toArray, List.set_cons_zero, List.set_cons_succ, List.getElem_toArray, List.getElem_cons_zero, List.getElem_cons_succ]
    refine wpAnyN_take (i := 9) (v := ?rnv76r2_9) rfl (by kernel_rfl) (by kernel_rfl) (by kernel_rfl) (fun _ _ _ h => h) (by decide) (by kernel_rfl) (Or.inl ⟨by rfl, ?rny76r2_9⟩) (by assumption) ?rnr76r2_9
    case rny76r2_9 => (intro w hSw; (try dsimp only at hSw); go_simp; try with_reducible rfl)
    try simp only [Act.put, List.setIfInBounds_toArray, List.set_cons_zero, List.set_cons_succ, List.getElem_toArray, List.getElem_cons_zero, List.getElem_cons_succ]
    refine wpAnyN_take (i := 10) (v := ?rnv76r2_10) rfl (by kernel_rfl) (by kernel_rfl) (by kernel_rfl) (fun _ _ _ h => h) (by decide) (by kernel_rfl) (Or.inl ⟨by rfl, ?rny76r2_10⟩) (by assumption) ?rnr76r2_10
    case rny76r2_10 => (intro w hSw; (try dsimp only at hSw); go_simp; try with_reducible rfl)
    try simp only [Act.put, List.setIfInBounds_toArray, List.set_cons_zero, List.set_cons_succ, List.getElem_toArray, List.getElem_cons_zero, List.getElem_cons_succ]
    refine wpAnyN_take (i := 11) (v := ?rnv76r2_11) rfl (by kernel_rfl) (by kernel_rfl) (by kernel_rfl) (fun _ _ _ h => h) (by decide) (by kernel_rfl) (Or.inl ⟨by rfl, ?rny76r2_11⟩) (by assumption) ?rnr76r2_11
    case rny76r2_11 => (intro w hSw; (try dsimp only at hSw); go_simp; try with_reducible rfl)
    try simp only [Act.put, List.setIfInBounds_toArray, List.set_cons_zero, List.set_cons_succ, List.getElem_toArray, List.getElem_cons_zero, List.getElem_cons_succ]
    refine wpAnyN_take (i := 12) (v := ?rnv76r2_12) rfl (by kernel_rfl) (by kernel_rfl) (by kernel_rfl) (fun _ _ _ h => h) (by decide) (by kernel_rfl) (Or.inl ⟨by rfl, ?rny76r2_12⟩) (by assumption) ?rnr76r2_12
    case rny76r2_12 => (intro w hSw; (try dsimp only at hSw); go_simp; try with_reducible rfl)
    try simp only [Act.put, List.setIfInBounds_toArray, List.set_cons_zero, List.set_cons_succ, List.getElem_toArray, List.getElem_cons_zero, List.getElem_cons_succ]
    refine wpAnyN_take (i := 13) (v := ?rnv76r2_13) rfl (by kernel_rfl) (by kernel_rfl) (by kernel_rfl) (fun _ _ _ h => h) (by decide) (by kernel_rfl) (Or.inl ⟨by rfl, ?rny76r2_13⟩) (by assumption) ?rnr76r2_13
    case rny76r2_13 => (intro w hSw; (try dsimp only at hSw); go_simp; try with_reducible rfl)
    try simp only [Act.put, List.setIfInBounds_toArray, List.set_cons_zero, List.set_cons_succ, List.getElem_toArray, List.getElem_cons_zero, List.getElem_cons_succ]
    refine wpAnyN_take (i := 14) (v := ?rnv76r2_14) rfl (by kernel_rfl) (by kernel_rfl) (by kernel_rfl) (fun _ _ _ h => h) (by decide) (by kernel_rfl) (Or.inl ⟨by rfl, ?rny76r2_14⟩) (by assumption) ?rnr76r2_14
    case rny76r2_14 => (intro w hSw; (try dsimp only at hSw); go_simp; try with_reducible rfl)
    try simp only [Act.put, List.setIfInBounds_toArray, List.set_cons_zero, List.set_cons_succ, List.getElem_toArray, List.getElem_cons_zero, List.getElem_cons_succ]
    refine wpAnyN_take (i := 15) (v := ?rnv76r2_15) rfl (by kernel_rfl) (by kernel_rfl) (by kernel_rfl) (fun _ _ _ h => h) (by decide) (by kernel_rfl) (Or.inl ⟨by rfl, ?rny76r2_15⟩) (by assumption) ?rnr76r2_15
    case rny76r2_15 => (intro w hSw; (try dsimp only at hSw); go_simp; try with_reducible rfl)
    try simp only [Act.put, List.setIfInBounds_toArray, List.set_cons_zero, List.set_cons_succ, List.getElem_toArray, List.getElem_cons_zero, List.getElem_cons_succ]
    refine wpAnyN_take (i := 16) (v := ?rnv76r2_16) rfl (by kernel_rfl) (by kernel_rfl) (by kernel_rfl) (fun _ _ _ h => h) (by decide) (by kernel_rfl) (Or.inl ⟨by rfl, ?rny76r2_16⟩) (by assumption) ?rnr76r2_16
    case rny76r2_16 => (intro w hSw; (try dsimp only at hSw); go_simp; try with_reducible rfl)
    try simp only [Act.put, List.setIfInBounds_toArray, List.set_cons_zero, List.set_cons_succ, List.getElem_toArray, List.getElem_cons_zero, List.getElem_cons_succ]
    refine wpAnyN_take (i := 17) (v := ?rnv76r2_17) rfl (by kernel_rfl) (by kernel_rfl) (by kernel_rfl) (fun _ _ _ h => h) (by decide) (by kernel_rfl) (Or.inl ⟨by rfl, ?rny76r2_17⟩) (by assumption) ?rnr76r2_17
    case rny76r2_17 => (intro w hSw; (try dsimp only at hSw); go_simp; try with_reducible rfl)
    try simp only [Act.put, List.setIfInBounds_toArray, List.set_cons_zero, List.set_cons_succ, List.getElem_toArray, List.getElem_cons_zero, List.getElem_cons_succ]
    refine wpAnyN_take (i := 18) (v := ?rnv76r2_18) rfl (by kernel_rfl) (by kernel_rfl) (by kernel_rfl) (fun _ _ _ h => h) (by decide) (by kernel_rfl) (Or.inl ⟨by rfl, ?rny76r2_18⟩) (by assumption) ?rnr76r2_18
    case rny76r2_18 => (intro w hSw; (try dsimp only at hSw); go_simp; try with_reducible rfl)
    try simp only [Act.put, List.setIfInBounds_toArray, List.set_cons_zero, List.set_cons_succ, List.getElem_toArray, List.getElem_cons_zero, List.getElem_cons_succ]
    refine wpAnyN_take (i := 19) (v := ?rnv76r2_19) rfl (by kernel_rfl) (by kernel_rfl) (by kernel_rfl) (fun _ _ _ h => h) (by decide) (by kernel_rfl) (Or.inl ⟨by rfl, ?rny76r2_19⟩) (by assumption) ?rnr76r2_19
    case rny76r2_19 => (intro w hSw; (try dsimp only at hSw); go_simp; try with_reducible rfl)
    try simp only [Act.put, List.setIfInBounds_toArray, List.set_cons_zero, List.set_cons_succ, List.getElem_toArray, List.getElem_cons_zero, List.getElem_cons_succ]
    refine wpAnyN_take (i := 20) (v := ?rnv76r2_20) rfl (by kernel_rfl) (by kernel_rfl) (by kernel_rfl) (fun _ _ _ h => h) (by decide) (by kernel_rfl) (Or.inl ⟨by rfl, ?rny76r2_20⟩) (by assumption) ?rnr76r2_20
    case rny76r2_20 => (intro w hSw; (try dsimp only at hSw); go_simp; try with_reducible rfl)
    try simp only [Act.put, List.setIfInBounds_toArray, List.set_cons_zero, List.set_cons_succ, List.getElem_toArray, List.getElem_cons_zero, List.getElem_cons_succ]
    refine wpAnyN_one (i := 21) (by kernel_rfl) rfl (fun K hK => ?_)
    go_simp
    refine hK.out _ _ (fun h => absurd rfl h) (fun _ => ?_)
    clear hK K
    try simp only [Act.put, List.setIfInBounds_toArray, List.set_cons_zero, List.set_cons_succ, List.getElem_toArray, List.getElem_cons_zero, List.getElem_cons_succ]
    refine wpAnyN_done (by kernel_rfl) ?_ _

    obtain ⟨w6, hw6⟩ : ∃ w6, w5.setCell (ad.add j) (.int .u8 (y : Nat)) = w6 := ⟨_, rfl⟩
    rw [hw6] at H6
    try rw [hw6]
    have y1 : w6.cell? ⟨g, 1, none⟩ = some (.int .i64 (n : Int)) := H6.out.2.1.cell 1
    have z1 : w6.frozen? ⟨g, 1, none⟩ = false := H6.out.2.1.free 1
    have hgl6 := H6.out.2.1.lt
    have pwn : IntKind.i64.wrap ((n : Int) + 1) = (n : Int) + 1 := IntWalk.i64_in _ ⟨by omega, by omega⟩
    clear hw6 k0' k1' k2
    go_wp2_with fail
    go_end0
    have F7 : Frm (fun t => t = g) w6 ((w6.setCell ⟨g, 1, none⟩ (.int .i64 ((n : Int) + 1))).drew) := ((Frm.refl (fun t => t = g) w6).self 1 _).drew
    have nb : ∀ x cs, Blk w6 x cs 5 → ¬ (x = g) := fun x cs hx e => by subst e; exact Blk.ne hx H6.out.2.1 (by decide) rfl
    refine ⟨rfl, ⟨_, ?_, own_frm H6.out.1 F7 nb, H.out.2.2.1.push hb⟩, HX.out.2.2.trans ((Past.of H6.out.2.2.1 (fun x hx => .inr (by subst hx; exact H6.out.2.2.2))).trans (Past.of F7 (fun x hx => .inl hx)))⟩
    have := (H6.out.2.1.set 1 (.int .i64 ((n : Int) + 1))).drew
    rw [List.length_append, List.length_singleton, H.out.2.2.2.1]
    exact this
  · have rz : ((r : Int) == 0) = false := by rw [beq_eq_false_iff_ne]; omega
    have hpr : pkr bs = pk bs := by unfold pkr; rw [if_neg (by rw [H.out.2.2.2.1, H.out.2.2.2.2.2.2.1]; exact hr0)]
    have HMJ : RowKit.Hid (j + 1 = l) := (show j + 1 = l by have := H.out; omega)
    obtain ⟨m, hm⟩ : ∃ m, l = m := ⟨_, rfl⟩
    subst hm
    have HX : RowKit.Hid (Blk w g #[.slice A0 l c0, .int .i64 (n : Int)] 135 ∧ RowB w B (.slice A0 l c0) (pkr bs) ∧ Past w w g B) := ⟨H.out.1, by rw [hpr]; exact H.out.2.1, Past.refl _ _ _⟩
    clear hpr hr0 k0 k1 z0 hgl
    obtain ⟨ad, rfl, ⟨cs5, hb5⟩, k2, z2, R5, hB5⟩ := RowB.put HX.out.2.1 (by rw [pkr_len, H.out.2.2.2.1, H.out.2.2.2.2.2.2.2, HMJ.out]) (j := j) (by have := HMJ.out; omega) (pkB bs j + b * 2 ^ (7 - r))
    rw [pkr_getD bs (by rw [H.out.2.2.2.1, H.out.2.2.2.2.2.2.2]; omega)] at k2
    obtain ⟨x, hx⟩ : ∃ x, pkB bs j = x := ⟨_, rfl⟩
    obtain ⟨s, hs⟩ : ∃ s : Nat, 7 - r = s := ⟨_, rfl⟩
    have hpush := pk_push bs b
    have hmod := pkB_mod bs
    have hx256 := pkB_lt H.out.2.2.1 j
    rw [H.out.2.2.2.1, H.out.2.2.2.2.2.2.1, H.out.2.2.2.2.2.2.2, hx, hs] at hpush
    rw [H.out.2.2.2.1, H.out.2.2.2.2.2.2.1, H.out.2.2.2.2.2.2.2, hx, hs] at hmod
    rw [hx] at k2 hx256 R5
    rw [hs] at R5
    have hor := or8 (x := x) (s := s) (b := b) hx256 (by omega) hb hmod
    obtain ⟨q, hq⟩ : ∃ q : Nat, b * 2 ^ s = q := ⟨_, rfl⟩
    have hq8 : q < 256 := by
      rw [← hq]
      have h1 : 2 ^ s ≤ 2 ^ 7 := Nat.pow_le_pow_right (by decide) (by omega)
      have h2 : b * 2 ^ s ≤ 1 * 2 ^ s := Nat.mul_le_mul_right _ hb
      omega
    have hsh : IntKind.u8.wrap ((b : Int) * 2 ^ s) = (q : Int) := by
      have : ((b : Int) * 2 ^ s) = (q : Int) := by rw [← hq]; push_cast; rfl
      rw [this]
      exact IntWalk.u8_in _ ⟨by omega, by omega⟩
    rw [hq] at hor R5 hpush
    obtain ⟨y, hy⟩ : ∃ y : Nat, x + q = y := ⟨_, rfl⟩
    rw [hy] at hor R5 hpush
    rw [← hpush] at R5
    have jl : (j : Int) < (l : Int) := by have := HMJ.out; omega
    have jm : j < l := by have := HMJ.out; omega
    have j0 : (0 : Int) ≤ (j : Int) := Int.natCast_nonneg _
    have pwj : IntKind.i64.wrap (j : Int) = (j : Int) := IntWalk.i64_in _ ⟨by omega, by omega⟩
    have hsr : (7 : Int) - (r : Int) = (s : Int) := by omega
    have pws : IntKind.i64.wrap (s : Int) = (s : Int) := IntWalk.i64_in _ ⟨by omega, by omega⟩
    have s0 : (0 : Int) ≤ (s : Int) := Int.natCast_nonneg _
    have s8 : (s : Int) < 8 := by omega
    have hne : g ≠ ad.block := fun e => by have := HX.out.1; rw [e] at this; exact Blk.ne this hb5 (by decide) rfl
    have B6 := (HX.out.1.other (a := ad.add j) (by rw [block_add]; exact hne) (.int .u8 (y : Nat)))
    have k1' : w.cell? ⟨g, 1, none⟩ = some (.int .i64 (n : Int)) := HX.out.1.cell 1
    have k0' : w.cell? ⟨g, 0, none⟩ = some (.slice (some ad) l c0) := HX.out.1.cell 0
    have F6 : Frm (fun t => t = ad.block) w (w.setCell (ad.add j) (.int .u8 (y : Nat))) := (Frm.refl (fun t => t = ad.block) w).set (.inl (by rw [block_add])) _
    have H6 := Lib.hid (And.intro R5 (And.intro B6 (And.intro F6 hB5)))
    clear hs hq hy hx hpush hmod hx256 R5 B6 F6 hB5 hne hb5
    go_enter Try.func76, Try.ntmps76
    go_upto_region 2 with fail
    refine wp_region_N (S := fun w' => w'.cell? ⟨g, 0, none⟩ = some (.slice (some ad) l c0) ∧ w'.cell? ⟨g, 1, none⟩ = some (.int .i64 n) ∧ w'.cell? (ad.add j) = some (.int .u8 x)) 21 (by kernel_rfl) ⟨k0', k1', k2⟩ (fun hHeld => ?_)
    refine wpAnyN_take (i := 0) (v := ?rnv76r2b_0) rfl (by kernel_rfl) (by kernel_rfl) (by kernel_rfl) (fun _ _ _ h => h) (by decide) (by kernel_rfl) (Or.inl ⟨by rfl, ?rny76r2b_0⟩) (by assumption) ?rnr76r2b_0
    case rny76r2b_0 => (intro w hSw; (try dsimp only at hSw); go_simp; try with_reducible rfl)
    try simp only [Act.put, List.setIfInBounds_toArray, List.set_cons_zero, List.set_cons_succ, List.getElem_toArray, List.getElem_cons_zero, List.getElem_cons_succ]
    refine wpAnyN_take (i := 1) (v := ?rnv76r2b_1) rfl (by kernel_rfl) (by kernel_rfl) (by kernel_rfl) (fun _ _ _ h => h) (by decide) (by kernel_rfl) (Or.inl ⟨by rfl, ?rny76r2b_1⟩) (by assumption) ?rnr76r2b_1
    case rny76r2b_1 => (intro w hSw; (try dsimp only at hSw); go_simp; try with_reducible rfl)
    try simp only [Act.put, List.setIfInBounds_toArray, List.set_cons_zero, List.set_cons_succ, List.getElem_toArray, List.getElem_cons_zero, List.getElem_cons_succ]
    refine wpAnyN_take (i := 2) (v := ?rnv76r2b_2) rfl (by kernel_rfl) (by kernel_rfl) (by kernel_rfl) (fun _ _ _ h => h) (by decide) (by kernel_rfl) (Or.inl ⟨by rfl, ?rny76r2b_2⟩) (by assumption) ?rnr76r2b_2
    case rny76r2b_2 => (intro w hSw; (try dsimp only at hSw); go_simp; try with_reducible rfl)
    try simp only [Act.put, List.setIfInBounds_toArray, List.set_cons_zero, List.set_cons_succ, List.getElem_toArray, List.getElem_cons_zero, List.getElem_cons_succ]
    refine wpAnyN_take (i := 3) (v := ?rnv76r2b_3) rfl (by kernel_rfl) (by kernel_rfl) (by kernel_rfl) (fun _ _ _ h => h) (by decide) (by kernel_rfl) (Or.inl ⟨by rfl, ?rny76r2b_3⟩) (by assumption) ?rnr76r2b_3
    case rny76r2b_3 => (intro w hSw; (try dsimp only at hSw); go_simp; try with_reducible rfl)
    try simp only [Act.put, List.setIfInBounds_toArray, List.set_cons_zero, List.set_cons_succ, List.getElem_toArray, List.getElem_cons_zero, List.getElem_cons_succ]
    refine wpAnyN_take (i := 4) (v := ?rnv76r2b_4) rfl (by kernel_rfl) (by kernel_rfl) (by kernel_rfl) (fun _ _ _ h => h) (by decide) (by kernel_rfl) (Or.inl ⟨by rfl, ?rny76r2b_4⟩) (by assumption) ?rnr76r2b_4
    case rny76r2b_4 => (intro w hSw; (try dsimp only at hSw); go_simp; try with_reducible rfl)
    try simp only [Act.put, List.setIfInBounds_toArray, List.set_cons_zero, List.set_cons_succ, List.getElem_toArray, List.getElem_cons_zero, List.getElem_cons_succ]
    refine wpAnyN_take (i := 5) (v := ?rnv76r2b_5) rfl (by kernel_rfl) (by kernel_rfl) (by kernel_rfl) (fun _ _ _ h => h) (by decide) (by kernel_rfl) (Or.inl ⟨by rfl, ?rny76r2b_5⟩) (by assumption) ?rnr76r2b_5
    case rny76r2b_5 => (intro w hSw; (try dsimp only at hSw); go_simp; try with_reducible rfl)
    try simp only [Act.put, List.setIfInBounds_toArray, List.set_cons_zero, List.set_cons_succ, List.getElem_toArray, List.getElem_cons_zero, List.getElem_cons_succ]
    refine wpAnyN_take (i := 6) (v := ?rnv76r2b_6) rfl (by kernel_rfl) (by kernel_rfl) (by kernel_rfl) (fun _ _ _ h => h) (by decide) (by kernel_rfl) (Or.inl ⟨by rfl, ?rny76r2b_6⟩) (by assumption) ?rnr76r2b_6
    case rny76r2b_6 => (intro w hSw; (try dsimp only at hSw); go_simp; try with_reducible rfl)
    try simp only [Act.put, List.setIfInBounds_toArray, List.set_cons_zero, List.set_cons_succ, List.getElem_toArray, List.getElem_cons_zero, List.getElem_cons_succ]
    refine wpAnyN_take (i := 7) (v := ?rnv76r2b_7) rfl (by kernel_rfl) (by kernel_rfl) (by kernel_rfl) (fun _ _ _ h => h) (by decide) (by kernel_rfl) (Or.inl ⟨by rfl, ?rny76r2b_7⟩) (by assumption) ?rnr76r2b_7
    case rny76r2b_7 => (intro w hSw; (try dsimp only at hSw); go_simp; try with_reducible rfl)
    try simp only [Act.put, List.setIfInBounds_toArray, List.set_cons_zero, List.set_cons_succ, List.getElem_toArray, List.getElem_cons_zero, List.getElem_cons_succ]
    refine wpAnyN_take (i := 8) (v := ?rnv76r2b_8) rfl (by kernel_rfl) (by kernel_rfl) (by kernel_rfl) (fun _ _ _ h => h) (by decide) (by kernel_rfl) (Or.inl ⟨by rfl, ?rny76r2b_8⟩) (by assumption) ?rnr76r2b_8
    case rny76r2b_8 => (intro w hSw; (try dsimp only at hSw); go_simp; try with_reducible rfl)
    try simp only [Act.put, List.setIfInBounds_toArray, List.set_cons_zero, List.set_cons_succ, List.getElem_toArray, List.getElem_cons_zero, List.getElem_cons_succ]
    refine wpAnyN_take (i := 9) (v := ?rnv76r2b_9) rfl (by kernel_rfl) (by kernel_rfl) (by kernel_rfl) (fun _ _ _ h => h) (by decide) (by kernel_rfl) (Or.inl ⟨by rfl, ?rny76r2b_9⟩) (by assumption) ?rnr76r2b_9
    case rny76r2b_9 => (intro w hSw; (try dsimp only at hSw); go_simp; try with_reducible rfl)
    try simp only [Act.put, List.setIfInBounds_toArray, List.set_cons_zero, List.set_cons_succ, List.getElem_toArray, List.getElem_cons_zero, List.getElem_cons_succ]
    refine wpAnyN_take (i := 10) (v := ?rnv76r2b_10) rfl (by kernel_rfl) (by kernel_rfl) (by kernel_rfl) (fun _ _ _ h => h) (by decide) (by kernel_rfl) (Or.inl ⟨by rfl, ?rny76r2b_10⟩) (by assumption) ?rnr76r2b_10
    case rny76r2b_10 => (intro w hSw; (try dsimp only at hSw); go_simp; try with_reducible rfl)
    try simp only [Act.put, List.setIfInBounds_toArray, List.set_cons_zero, List.set_cons_succ, List.getElem_toArray, List.getElem_cons_zero, List.getElem_cons_succ]
    refine wpAnyN_take (i := 11) (v := ?rnv76r2b_11) rfl (by kernel_rfl) (by kernel_rfl) (by kernel_rfl) (fun _ _ _ h => h) (by decide) (by kernel_rfl) (Or.inl ⟨by rfl, ?rny76r2b_11⟩) (by assumption) ?rnr76r2b_11
    case rny76r2b_11 => (intro w hSw; (try dsimp only at hSw); go_simp; try with_reducible rfl)
    try simp only [Act.put, List.setIfInBounds_toArray, List.set_cons_zero, List.set_cons_succ, List.getElem_toArray, List.getElem_cons_zero, List.getElem_cons_succ]
    refine wpAnyN_take (i := 12) (v := ?rnv76r2b_12) rfl (by kernel_rfl) (by kernel_rfl) (by kernel_rfl) (fun _ _ _ h => h) (by decide) (by kernel_rfl) (Or.inl ⟨by rfl, ?rny76r2b_12⟩) (by assumption) ?rnr76r2b_12
    case rny76r2b_12 => (intro w hSw; (try dsimp only at hSw); go_simp; try with_reducible rfl)
    try simp only [Act.put, List.setIfInBounds_toArray, List.set_cons_zero, List.set_cons_succ, List.getElem_toArray, List.getElem_cons_zero, List.getElem_cons_succ]
    refine wpAnyN_take (i := 13) (v := ?rnv76r2b_13) rfl (by kernel_rfl) (by kernel_rfl) (by kernel_rfl) (fun _ _ _ h => h) (by decide) (by kernel_rfl) (Or.inl ⟨by rfl, ?rny76r2b_13⟩) (by assumption) ?rnr76r2b_13
    case rny76r2b_13 => (intro w hSw; (try dsimp only at hSw); go_simp; try with_reducible rfl)
    try simp only [Act.put, List.setIfInBounds_toArray, List.set_cons_zero, List.set_cons_succ, List.getElem_toArray, List.getElem_cons_zero, List.getElem_cons_succ]
    refine wpAnyN_take (i := 14) (v := ?rnv76r2b_14) rfl (by kernel_rfl) (by kernel_rfl) (by kernel_rfl) (fun _ _ _ h => h) (by decide) (by kernel_rfl) (Or.inl ⟨by rfl, ?rny76r2b_14⟩) (by assumption) ?rnr76r2b_14
    case rny76r2b_14 => (intro w hSw; (try dsimp only at hSw); go_simp; try with_reducible rfl)
    try simp only [Act.put, List.setIfInBounds_toArray, List.set_cons_zero, List.set_cons_succ, List.getElem_toArray, List.getElem_cons_zero, List.getElem_cons_succ]
    refine wpAnyN_take (i := 15) (v := ?rnv76r2b_15) rfl (by kernel_rfl) (by kernel_rfl) (by kernel_rfl) (fun _ _ _ h => h) (by decide) (by kernel_rfl) (Or.inl ⟨by rfl, ?rny76r2b_15⟩) (by assumption) ?rnr76r2b_15
    case rny76r2b_15 => (intro w hSw; (try dsimp only at hSw); go_simp; try with_reducible rfl)
    try simp only [Act.put, List.setIfInBounds_toArray, List.set_cons_zero, List.set_cons_succ, List.getElem_toArray, List.getElem_cons_zero, List.getElem_cons_succ]
    refine wpAnyN_take (i := 16) (v := ?rnv76r2b_16) rfl (by kernel_rfl) (by kernel_rfl) (by kernel_rfl) (fun _ _ _ h => h) (by decide) (by kernel_rfl) (Or.inl ⟨by rfl, ?rny76r2b_16⟩) (by assumption) ?rnr76r2b_16
    case rny76r2b_16 => (intro w hSw; (try dsimp only at hSw); go_simp; try with_reducible rfl)
    try simp only [Act.put, List.setIfInBounds_toArray, List.set_cons_zero, List.set_cons_succ, List.getElem_toArray, List.getElem_cons_zero, List.getElem_cons_succ]
    refine wpAnyN_take (i := 17) (v := ?rnv76r2b_17) rfl (by kernel_rfl) (by kernel_rfl) (by kernel_rfl) (fun _ _ _ h => h) (by decide) (by kernel_rfl) (Or.inl ⟨by rfl, ?rny76r2b_17⟩) (by assumption) ?rnr76r2b_17
    case rny76r2b_17 => (intro w hSw; (try dsimp only at hSw); go_simp; try with_reducible rfl)
    try simp only [Act.put, List.setIfInBounds_toArray, List.set_cons_zero, List.set_cons_succ, List.getElem_toArray, List.getElem_cons_zero, List.getElem_cons_succ]
    refine wpAnyN_take (i := 18) (v := ?rnv76r2b_18) rfl (by kernel_rfl) (by kernel_rfl) (by kernel_rfl) (fun _ _ _ h => h) (by decide) (by kernel_rfl) (Or.inl ⟨by rfl, ?rny76r2b_18⟩) (by assumption) ?rnr76r2b_18
    case rny76r2b_18 => (intro w hSw; (try dsimp only at hSw); go_simp; try with_reducible rfl)
    try simp only [Act.put, List.setIfInBounds_toArray, List.set_cons_zero, List.set_cons_succ, List.getElem_toArray, List.getElem_cons_zero, List.getElem_cons_succ]
    refine wpAnyN_take (i := 19) (v := ?rnv76r2b_19) rfl (by kernel_rfl) (by kernel_rfl) (by kernel_rfl) (fun _ _ _ h => h) (by decide) (by kernel_rfl) (Or.inl ⟨by rfl, ?rny76r2b_19⟩) (by assumption) ?rnr76r2b_19
    case rny76r2b_19 => (intro w hSw; (try dsimp only at hSw); go_simp; try with_reducible rfl)
    try simp only [Act.put, List.setIfInBounds_toArray, List.set_cons_zero, List.set_cons_succ, List.getElem_toArray, List.getElem_cons_zero, List.getElem_cons_succ]
    refine wpAnyN_take (i := 20) (v := ?rnv76r2b_20) rfl (by kernel_rfl) (by kernel_rfl) (by kernel_rfl) (fun _ _ _ h => h) (by decide) (by kernel_rfl) (Or.inl ⟨by rfl, ?rny76r2b_20⟩) (by assumption) ?rnr76r2b_20
    case rny76r2b_20 => (intro w hSw; (try dsimp only at hSw); go_simp; try with_reducible rfl)
    try simp only [Act.put, List.setIfInBounds_toArray, List.set_cons_zero, List.set_cons_succ, List.getElem_toArray, List.getElem_cons_zero, List.getElem_cons_succ]
    refine wpAnyN_one (i := 21) (by kernel_rfl) rfl (fun K hK => ?_)
    go_simp
    refine hK.out _ _ (fun h => absurd rfl h) (fun _ => ?_)
    clear hK K
    try simp only [Act.put, List.setIfInBounds_toArray, List.set_cons_zero, List.set_cons_succ, List.getElem_toArray, List.getElem_cons_zero, List.getElem_cons_succ]
    refine wpAnyN_done (by kernel_rfl) ?_ _

    obtain ⟨w6, hw6⟩ : ∃ w6, w.setCell (ad.add j) (.int .u8 (y : Nat)) = w6 := ⟨_, rfl⟩
    rw [hw6] at H6
    try rw [hw6]
    have y1 : w6.cell? ⟨g, 1, none⟩ = some (.int .i64 (n : Int)) := H6.out.2.1.cell 1
    have z1 : w6.frozen? ⟨g, 1, none⟩ = false := H6.out.2.1.free 1
    have hgl6 := H6.out.2.1.lt
    have pwn : IntKind.i64.wrap ((n : Int) + 1) = (n : Int) + 1 := IntWalk.i64_in _ ⟨by omega, by omega⟩
    clear hw6 k0' k1' k2
    go_wp2_with fail
    go_end0
    have F7 : Frm (fun t => t = g) w6 ((w6.setCell ⟨g, 1, none⟩ (.int .i64 ((n : Int) + 1))).drew) := ((Frm.refl (fun t => t = g) w6).self 1 _).drew
    have nb : ∀ x cs, Blk w6 x cs 5 → ¬ (x = g) := fun x cs hx e => by subst e; exact Blk.ne hx H6.out.2.1 (by decide) rfl
    refine ⟨rfl, ⟨_, ?_, own_frm H6.out.1 F7 nb, H.out.2.2.1.push hb⟩, HX.out.2.2.trans ((Past.of H6.out.2.2.1 (fun x hx => .inr (by subst hx; exact H6.out.2.2.2))).trans (Past.of F7 (fun x hx => .inl hx)))⟩
    have := (H6.out.2.1.set 1 (.int .i64 ((n : Int) + 1))).drew
    rw [List.length_append, List.length_singleton, H.out.2.2.2.1]
    exact this
end Go.Proofs.Ytccaaldfccgncaa.A
