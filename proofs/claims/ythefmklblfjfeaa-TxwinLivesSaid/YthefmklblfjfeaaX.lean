/- New of txwin; all open ones; the fixed calls. -/
import Derived.Test.YthefmklblfjfeaaV
namespace Go.Proofs.Ythefmklblfjfeaa.A
open Go.RowKit Go.Proofs.Ythefmklblfjfeaa.K Go.Proofs.Ythefmklblfjfeaa.N
set_option linter.unusedVariables false
set_option linter.unusedSimpArgs false

theorem size_is (b S : Int) (w : World) (h : sz b = S) : Calls Try.prog 26 #[.agg #[.int .i64 b]] w fun e w' => e = .returned (.int .i64 S) ∧ Frm No w w' := h ▸ size_any b w
theorem right_is (b : Int) (t : Bool) (w : World) (h : decide (1 ≤ b ∧ b ≤ 16) = t) : Calls Try.prog 25 #[.agg #[.int .i64 b]] w fun e w' => e = .returned (.bool t) ∧ Frm No w w' := h ▸ right_any b w
/-- May it be? -/
def mayW (b z : Int) : Bool := decide ((1 ≤ b ∧ b ≤ 16) ∧ 1 ≤ z ∧ 2 * z ≤ sz b)
theorem new_bad (b z : Int) (w : World) (h : mayW b z = false) : Calls Try.prog 6 #[.int .i64 b, .int .i64 z] w fun e w' => e = .returned (.tuple #[.pointer none, .int .i64 1]) ∧ Frm No w w' := by
  have hm : ¬ ((1 ≤ b ∧ b ≤ 16) ∧ 1 ≤ z ∧ 2 * z ≤ sz b) := of_decide_eq_false h
  have hB : Blk (w.alloc (.cells #[.int .i64 b] 50)) w.heap.size #[.int .i64 b] 50 := Blk.new _ _ _
  have F0 := (Frm.refl No w).alloc (.cells #[.int .i64 b] 50)
  by_cases hb : 1 ≤ b ∧ b ≤ 16
  · by_cases hz : z < 1
    · go_enter Try.func6, Try.ntmps6
      go_wp2_with (go_at_call 25; refine (right_is b true _ (decide_eq_true hb)).mono ?_; rintro e w1 ⟨rfl, f1⟩)
      go_ret2
      exact ⟨rfl, F0.thenN f1⟩
    · have hS := sz_range hb
      have hgt : sz b / 2 < z := by omega
      obtain ⟨S, hSe⟩ : ∃ S, sz b = S := ⟨_, rfl⟩
      rw [hSe] at hS hgt
      have htd : S.tdiv 2 = S / 2 := Int.tdiv_eq_ediv_of_nonneg (by omega)
      clear h hm
      go_enter Try.func6, Try.ntmps6
      go_wp2_with fail
      refine (right_is b true _ (decide_eq_true hb)).mono ?_
      rintro e w1 ⟨rfl, f1⟩
      have h1 := f1.blk hB (fun h => h)
      have k1 : w1.cell? ⟨w.heap.size, 0, none⟩ = some (.int .i64 b) := h1.cell 0
      go_wp2_with fail
      refine (size_is b S _ hSe).mono ?_
      rintro e w2 ⟨rfl, f2⟩
      go_wp2_with fail
      go_ret2
      exact ⟨rfl, (F0.thenN f1).thenN f2⟩
  · have hbf : decide (1 ≤ b ∧ b ≤ 16) = false := decide_eq_false hb
    clear hb h hm
    go_enter Try.func6, Try.ntmps6
    go_wp2_with (go_at_call 25; refine (right_is b false _ hbf).mono ?_; rintro e w1 ⟨rfl, f1⟩)
    go_ret2
    exact ⟨rfl, F0.thenN f1⟩

theorem fst_nil : fst [] = 0 := rfl
theorem new_ok (b z : Int) (w : World) (h : mayW b z = true) : Calls Try.prog 6 #[.int .i64 b, .int .i64 z] w fun e w' => ∃ g mb, e = .returned (.tuple #[.pointer (some ⟨g, 0, none⟩), .int .i64 0]) ∧ w.heap.size ≤ g ∧ w.heap.size ≤ mb ∧ IsW w' g b z mb 0 [] ∧ Frm No w w' := by
  have hm : (1 ≤ b ∧ b ≤ 16) ∧ 1 ≤ z ∧ 2 * z ≤ sz b := of_decide_eq_true h
  have hmm := @run_makeMap Try.prog
  have hB : Blk (w.alloc (.cells #[.int .i64 b] 50)) w.heap.size #[.int .i64 b] 50 := Blk.new _ _ _
  have F0 := (Frm.refl No w).alloc (.cells #[.int .i64 b] 50)
  obtain ⟨hb, hz, hz2⟩ := hm
  have hS := sz_range hb
  have hgt : z ≤ sz b / 2 := by omega
  obtain ⟨S, hSe⟩ : ∃ S, sz b = S := ⟨_, rfl⟩
  rw [hSe] at hS hgt
  have htd : S.tdiv 2 = S / 2 := Int.tdiv_eq_ediv_of_nonneg (by omega)
  have HZ2 := Lib.hid hz2
  clear h hz2
  go_enter Try.func6, Try.ntmps6
  go_wp2_with fail
  refine (right_is b true _ (decide_eq_true hb)).mono ?_
  rintro e w1 ⟨rfl, f1⟩
  have h1 := f1.blk hB (fun h => h)
  have k1 : w1.cell? ⟨w.heap.size, 0, none⟩ = some (.int .i64 b) := h1.cell 0
  go_wp2_with fail
  refine (size_is b S _ hSe).mono ?_
  rintro e w2 ⟨rfl, f2⟩
  have h2 := f2.blk h1 (fun h => h)
  have k2 : w2.cell? ⟨w.heap.size, 0, none⟩ = some (.int .i64 b) := h2.cell 0
  have F2 := (F0.thenN f1).thenN f2
  have hsz := F2.size
  have m1 := MapB.made w2
  have b1 := Blk.new (w2.alloc (.map #[] 0)) #[.int .i64 b, .int .i64 z, .int .i64 0, .int .i64 0, .map (some w2.heap.size)] 53
  have F3 := (F2.alloc (.map #[] 0)).alloc (.cells #[.int .i64 b, .int .i64 z, .int .i64 0, .int .i64 0, .map (some w2.heap.size)] 53)
  have m2 := m1.alloc (.cells #[.int .i64 b, .int .i64 z, .int .i64 0, .int .i64 0, .map (some w2.heap.size)] 53)
  clear F0 f1 f2 h1 h2 k1 hB F2 m1
  go_wp2_with fail
  go_ret2
  refine ⟨_, w2.heap.size, rfl, by omega, hsz, ⟨hb, hz, HZ2.out, by rw [fst_nil]; simp; omega, ?_, m2.congr fun _ => rfl⟩, F3⟩
  rw [fst_nil, List.length_nil, nm_zero hb]
  simpa [winA] using b1

/-- The open ones. -/
def opensL (b : Int) (D : List Bool) : List Int := ((List.range (D.length - fst D)).filter fun j => !D.getD (fst D + j) false).map fun j => nm b (fst D + j)
theorem opensL_mem (b : Int) (D : List Bool) (x : Int) : x ∈ opensL b D ↔ ∃ i, fst D ≤ i ∧ i < D.length ∧ D.getD i false = false ∧ x = nm b i := by
  unfold opensL
  simp only [List.mem_map, List.mem_filter, List.mem_range, Bool.not_eq_true']
  constructor
  · rintro ⟨j, ⟨h1, h2⟩, rfl⟩
    exact ⟨fst D + j, by omega, by omega, h2, rfl⟩
  · rintro ⟨i, h1, h2, h3, rfl⟩
    exact ⟨i - fst D, ⟨by omega, by rw [show fst D + (i - fst D) = i by omega]; exact h3⟩, by rw [show fst D + (i - fst D) = i by omega]⟩
theorem opensL_le (b : Int) (D : List Bool) : (opensL b D).length ≤ D.length - fst D := by
  unfold opensL
  have := List.length_filter_le (fun j => !D.getD (fst D + j) false) (List.range (D.length - fst D))
  simpa using this
theorem opensL_first (b : Int) (D : List Bool) (h : fst D < D.length) : 0 < (opensL b D).length ∧ (opensL b D).getD 0 0 = nm b (fst D) := by
  unfold opensL
  obtain ⟨J, hJ⟩ : ∃ J, D.length - fst D = J + 1 := ⟨D.length - fst D - 1, by omega⟩
  rw [hJ, List.range_succ_eq_map, List.filter_cons, if_pos (by simpa using fst_at D)]
  simp
theorem opensL_none (b : Int) (D : List Bool) (h : fst D = D.length) : opensL b D = [] := by
  unfold opensL
  rw [h]; simp
theorem nm_ne {b : Int} {i k : Nat} (h1 : i < k) (h2 : k < i + szN b) : nm b i ≠ nm b k := fun e => by
  have e' : i % szN b = k % szN b := by unfold nm at e; exact_mod_cast e
  have := mod_same e' (by omega) h2
  omega

theorem all_D (w : World) (g : Nat) (b z : Int) (mb n : Nat) (D : List Bool) (h : IsW w g b z mb n D) :
    Calls Try.prog 9 #[.pointer (some ⟨g, 0, none⟩)] w (Handed No (fun _ => True) w (opensL b D)) := by
  have hlt := h.lt
  have hle := fst_le D
  have h2 := szN_two h.1
  have e : openTo b (nm b (fst D)) (fD (szN b) D) (D.length - fst D) = opensL b D := by
    unfold openTo opensL
    have e1 : ∀ j ∈ List.range (D.length - fst D), (!fD (szN b) D ((nm b (fst D) + (j : Int)) % sz b)) = !D.getD (fst D + j) false := fun j hj => by
      have := List.mem_range.1 hj
      rw [nm_add, show fD (szN b) D (nm b (fst D + j)) = _ from fD_at hlt (by omega) (by omega)]
    rw [List.filter_congr e1]
    refine List.map_congr_left fun j hj => ?_
    rw [nm_add]
  rw [← e]
  refine all_ok w g b z _ _ mb n _ h.2.2.2.2.1 h.2.2.2.2.2 h.1 (nm_range h.1 _) _ (by omega) ?_ ?_
  · intro j hj
    rw [nm_add]
    exact nm_ne (by omega) (by omega)
  · rw [nm_add, show fst D + (D.length - fst D) = D.length by omega]
end Go.Proofs.Ythefmklblfjfeaa.A
