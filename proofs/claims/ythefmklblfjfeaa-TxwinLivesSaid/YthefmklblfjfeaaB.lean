/- What Go, Far, In, Less of a space do. -/
import Derived.Test.YthefmklblfjfeaaA
namespace Go.Proofs.Ythefmklblfjfeaa.A
open Go.RowKit Go.Proofs.Ythefmklblfjfeaa.K Go.Proofs.Ythefmklblfjfeaa.N
set_option linter.unusedVariables false
set_option linter.unusedSimpArgs false

/-- Far's answer: the number, and the error. -/
def farE (b x y : Int) : Int := askS b [x, y]
def farN (b x y : Int) : Int := if farE b x y = 0 then (y - x) % sz b else 0

theorem askS_cases (b : Int) (l : List Int) : askS b l = 0 ∨ askS b l = 1 ∨ askS b l = 3 := by
  unfold askS; split
  · split <;> simp
  · simp
theorem askS_zero {b : Int} {l : List Int} (h : askS b l = 0) : (1 ≤ b ∧ b ≤ 16) ∧ ∀ z ∈ l, 0 ≤ z ∧ z < sz b := by
  unfold askS at h
  split at h
  · split at h
    · rename_i h1 h2; exact ⟨h1, h2⟩
    · simp at h
  · simp at h

theorem boxed_two (b x y : Int) (w : World) : Nums ((w.alloc (.cells #[.int .i64 b] 50)).alloc (.cells #[.int .i64 x, .int .i64 y] 3)) (some ⟨w.heap.size + 1, 0, none⟩) 2 [x, y] := by
  have h := Blk.new (w.alloc (.cells #[.int .i64 b] 50)) #[.int .i64 x, .int .i64 y] 3
  rw [World.size_alloc] at h
  exact nums_two h
theorem boxed_one (b x : Int) (w : World) : Nums ((w.alloc (.cells #[.int .i64 b] 50)).alloc (.cells #[.int .i64 x] 3)) (some ⟨w.heap.size + 1, 0, none⟩) 1 [x] := by
  have h := Blk.new (w.alloc (.cells #[.int .i64 b] 50)) #[.int .i64 x] 3
  rw [World.size_alloc] at h
  exact nums_one h

theorem ask_is (b : Int) (A : Option Addr) (n c : Nat) (zs : List Int) (r : Int) (w : World) (hr : askS b zs = r) (hI : Nums w A n zs) (hn : n ≤ 1000) :
    Calls Try.prog 35 #[.agg #[.int .i64 b], .slice A n c] w fun e w' => e = .returned (.int .i64 r) ∧ Frm No w w' := hr ▸ ask_any b A n c zs w hI hn

set_option maxHeartbeats 1000000 in
theorem far_ok (b x y : Int) (w : World) (h0 : askS b [x, y] = 0) :
    Calls Try.prog 33 #[.agg #[.int .i64 b], .int .i64 x, .int .i64 y] w fun e w' => e = .returned (.tuple #[.int .i64 ((y - x) % sz b), .int .i64 0]) ∧ Frm No w w' := by
  have hN := boxed_two b x y w
  obtain ⟨hb, hz⟩ := askS_zero h0
  have hx := hz x (by simp)
  have hy := hz y (by simp)
  have hr := sz_range hb
  have HM := Lib.hid (mask_sz hb (y - x))
  have H0 := Lib.hid h0
  clear hz h0
  go_enter Try.func33, Try.ntmps33
  go_wp2_with fail
  refine (ask_is b _ _ _ [x, y] 0 _ H0.out hN (by omega)).mono ?_
  rintro e w1 ⟨rfl, f1⟩
  have hB := f1.blk (Blk.alloc (Blk.new w #[.int .i64 b] 50) (.cells #[.int .i64 x, .int .i64 y] 3)) (fun h => h)
  have hF := (((Frm.refl No w).alloc (.cells #[.int .i64 b] 50)).alloc (.cells #[.int .i64 x, .int .i64 y] 3)).thenN f1
  have hc0 : w1.cell? ⟨w.heap.size, 0, none⟩ = some (.int .i64 b) := hB.cell 0
  clear f1 hN
  go_wp2_with fail
  refine (size_any b _).mono ?_
  rintro e w2 ⟨rfl, f2⟩
  go_wp2_with fail
  go_ret2
  exact ⟨ret_eq (by rw [← HM.out]; rfl), hF.thenN f2⟩

set_option maxHeartbeats 1000000 in
theorem far_bad (b x y r : Int) (w : World) (h0 : askS b [x, y] = r) (hr : r ≠ 0) :
    Calls Try.prog 33 #[.agg #[.int .i64 b], .int .i64 x, .int .i64 y] w fun e w' => e = .returned (.tuple #[.int .i64 0, .int .i64 r]) ∧ Frm No w w' := by
  have hN := boxed_two b x y w
  have hd : (r != 0) = true := by simpa using hr
  have H0 := Lib.hid h0
  clear h0 hr
  go_enter Try.func33, Try.ntmps33
  go_wp2_with fail
  refine (ask_is b _ _ _ [x, y] r _ H0.out hN (by omega)).mono ?_
  rintro e w1 ⟨rfl, f1⟩
  have hF := (((Frm.refl No w).alloc (.cells #[.int .i64 b] 50)).alloc (.cells #[.int .i64 x, .int .i64 y] 3)).thenN f1
  go_wp2_with fail
  go_ret2
  exact ⟨rfl, hF⟩

/-- Go's answer: the number, and the error. -/
def goE (b x y : Int) : Int := if askS b [x] = 0 then (if y < -65536 ∨ 65536 < y then 1 else 0) else askS b [x]
def goN (b x y : Int) : Int := if goE b x y = 0 then (x + y) % sz b else 0

set_option maxHeartbeats 1000000 in
theorem go_ok (b x y : Int) (w : World) (h0 : askS b [x] = 0) (hy : -65536 ≤ y) (hy2 : y ≤ 65536) :
    Calls Try.prog 28 #[.agg #[.int .i64 b], .int .i64 x, .int .i64 y] w fun e w' => e = .returned (.tuple #[.int .i64 ((x + y) % sz b), .int .i64 0]) ∧ Frm No w w' := by
  have hN := boxed_one b x w
  obtain ⟨hb, hz⟩ := askS_zero h0
  have hx := hz x (by simp)
  have hr := sz_range hb
  have e1 : (x + y + 65536) % sz b = (x + y) % sz b := by
    rw [Int.add_emod, hr.2.2.1, Int.add_zero, Int.emod_emod]
  have HM := Lib.hid ((mask_sz hb (x + y + 65536)).trans e1)
  have H0 := Lib.hid h0
  clear hz h0 e1
  go_enter Try.func28, Try.ntmps28
  go_wp2_with fail
  refine (ask_is b _ _ _ [x] 0 _ H0.out hN (by omega)).mono ?_
  rintro e w1 ⟨rfl, f1⟩
  have hB := f1.blk (Blk.alloc (Blk.new w #[.int .i64 b] 50) (.cells #[.int .i64 x] 3)) (fun h => h)
  have hF := (((Frm.refl No w).alloc (.cells #[.int .i64 b] 50)).alloc (.cells #[.int .i64 x] 3)).thenN f1
  have hc0 : w1.cell? ⟨w.heap.size, 0, none⟩ = some (.int .i64 b) := hB.cell 0
  clear f1 hN
  go_wp2_with fail
  refine (size_any b _).mono ?_
  rintro e w2 ⟨rfl, f2⟩
  go_wp2_with fail
  go_ret2
  exact ⟨ret_eq (by rw [← HM.out]; rfl), hF.thenN f2⟩

set_option maxHeartbeats 1000000 in
theorem go_far (b x y : Int) (w : World) (h0 : askS b [x] = 0) (hy : y < -65536 ∨ 65536 < y) :
    Calls Try.prog 28 #[.agg #[.int .i64 b], .int .i64 x, .int .i64 y] w fun e w' => e = .returned (.tuple #[.int .i64 0, .int .i64 1]) ∧ Frm No w w' := by
  have hN := boxed_one b x w
  have H0 := Lib.hid h0
  clear h0
  by_cases hlow : y < -65536
  · clear hy
    go_enter Try.func28, Try.ntmps28
    go_wp2_with fail
    refine (ask_is b _ _ _ [x] 0 _ H0.out hN (by omega)).mono ?_
    rintro e w1 ⟨rfl, f1⟩
    have hF := (((Frm.refl No w).alloc (.cells #[.int .i64 b] 50)).alloc (.cells #[.int .i64 x] 3)).thenN f1
    go_wp2_with fail
    go_ret2
    exact ⟨rfl, hF⟩
  · have hhigh : 65536 < y := by omega
    clear hy
    go_enter Try.func28, Try.ntmps28
    go_wp2_with fail
    refine (ask_is b _ _ _ [x] 0 _ H0.out hN (by omega)).mono ?_
    rintro e w1 ⟨rfl, f1⟩
    have hF := (((Frm.refl No w).alloc (.cells #[.int .i64 b] 50)).alloc (.cells #[.int .i64 x] 3)).thenN f1
    go_wp2_with fail
    go_ret2
    exact ⟨rfl, hF⟩

set_option maxHeartbeats 1000000 in
theorem go_bad (b x y r : Int) (w : World) (h0 : askS b [x] = r) (hr : r ≠ 0) :
    Calls Try.prog 28 #[.agg #[.int .i64 b], .int .i64 x, .int .i64 y] w fun e w' => e = .returned (.tuple #[.int .i64 0, .int .i64 r]) ∧ Frm No w w' := by
  have hN := boxed_one b x w
  have hd : (r != 0) = true := by simpa using hr
  have H0 := Lib.hid h0
  clear h0 hr
  go_enter Try.func28, Try.ntmps28
  go_wp2_with fail
  refine (ask_is b _ _ _ [x] r _ H0.out hN (by omega)).mono ?_
  rintro e w1 ⟨rfl, f1⟩
  have hF := (((Frm.refl No w).alloc (.cells #[.int .i64 b] 50)).alloc (.cells #[.int .i64 x] 3)).thenN f1
  go_wp2_with fail
  go_ret2
  exact ⟨rfl, hF⟩

theorem far_any (b x y : Int) (w : World) : Calls Try.prog 33 #[.agg #[.int .i64 b], .int .i64 x, .int .i64 y] w fun e w' => e = .returned (.tuple #[.int .i64 (farN b x y), .int .i64 (farE b x y)]) ∧ Frm No w w' := by
  unfold farN farE
  by_cases h : askS b [x, y] = 0
  · rw [if_pos h, h]; exact far_ok b x y w h
  · rw [if_neg h]; exact far_bad b x y _ w rfl h

theorem go_any (b x y : Int) (w : World) : Calls Try.prog 28 #[.agg #[.int .i64 b], .int .i64 x, .int .i64 y] w fun e w' => e = .returned (.tuple #[.int .i64 (goN b x y), .int .i64 (goE b x y)]) ∧ Frm No w w' := by
  by_cases h : askS b [x] = 0
  · by_cases hy : y < -65536 ∨ 65536 < y
    · have e : goE b x y = 1 := by unfold goE; rw [if_pos h, if_pos hy]
      have e2 : goN b x y = 0 := by unfold goN; rw [e]; rfl
      rw [e, e2]; exact go_far b x y w h hy
    · have e : goE b x y = 0 := by unfold goE; rw [if_pos h, if_neg hy]
      have e2 : goN b x y = (x + y) % sz b := by unfold goN; rw [e]; rfl
      rw [e, e2]; exact go_ok b x y w h (by omega) (by omega)
  · have e : goE b x y = askS b [x] := by unfold goE; rw [if_neg h]
    have e2 : goN b x y = 0 := by unfold goN; rw [e, if_neg h]
    rw [e, e2]; exact go_bad b x y _ w rfl h
end Go.Proofs.Ythefmklblfjfeaa.A
