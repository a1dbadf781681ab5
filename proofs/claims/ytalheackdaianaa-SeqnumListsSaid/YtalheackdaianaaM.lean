/- SeqnumMoves' walk. -/
import Derived.Test.YtalheackdaianaaJ
namespace Go.Proofs.Ytalheackdaianaa.A
open Go.RowKit Go.Proofs.Ytalheackdaianaa.K Go.Proofs.Ytalheackdaianaa.N
set_option linter.unusedVariables false
set_option linter.unusedSimpArgs false

/-- Is n among the first k numbers from base on? -/
def fnd (b base n : Int) : Nat → Bool
  | 0 => false
  | k + 1 => fnd b base n k || ((base + k) % sz b == n)

theorem fnd_iff (b base n : Int) (k : Nat) : fnd b base n k = true ↔ ∃ j : Nat, j < k ∧ (base + j) % sz b = n := by
  induction k with
  | zero => simp [fnd]
  | succ k ih =>
    simp only [fnd, Bool.or_eq_true, ih, beq_iff_eq]
    constructor
    · rintro (⟨j, hj, h⟩ | h)
      · exact ⟨j, by omega, h⟩
      · exact ⟨k, by omega, h⟩
    · rintro ⟨j, hj, h⟩
      by_cases hjk : j = k
      · subst hjk; exact .inr h
      · exact .inl ⟨j, by omega, h⟩

/-- What is so of a window that is moved on. -/
theorem moves_facts {b base size n y X Y : Int} (h1 : inE b base size n = 0) (h2 : goE b base y = 0) (h3 : goE b n y = 0) (hX : goN b base y = X) (hY : goN b n y = Y) :
    ∃ F : Int, farE b base n = 0 ∧ farN b base n = F ∧ 0 ≤ F ∧ inB b base size n = decide (F < size) ∧ inE b X size Y = 0 ∧ inB b X size Y = decide (F < size) ∧ 1 ≤ size ∧ size ≤ 32768 ∧ goE b base size = 0 ∧
      farE b base (goN b base size) = 0 ∧ farN b base (goN b base size) = size ∧ (size ≤ 1024 → fnd b base n size.toNat = decide (F < size)) := by
  have hf : farE b base n = 0 := by
    unfold inE at h1
    split at h1
    · assumption
    · rename_i h; exact absurd h1 h
  obtain ⟨hb, hz⟩ := askS_zero hf
  have hr := sz_range hb
  have k1 := hz base (by simp)
  have k2 := hz n (by simp)
  have hs : 1 ≤ size ∧ size ≤ sz b / 2 := by
    unfold inE at h1
    rw [if_pos hf] at h1
    split at h1
    · simp at h1
    · omega
  have hXv : X = (base + y) % sz b := by rw [← hX]; unfold goN; rw [h2]; rfl
  have hYv : Y = (n + y) % sz b := by rw [← hY]; unfold goN; rw [h3]; rfl
  obtain ⟨S, hS⟩ : ∃ S, sz b = S := ⟨_, rfl⟩
  have hFv : farN b base n = (n - base) % S := by unfold farN; rw [hf, hS]; rfl
  rw [hS] at hr k1 k2 hs hXv hYv
  have x0 := Int.emod_nonneg (base + y) (show S ≠ 0 by omega)
  have x1 := Int.emod_lt_of_pos (base + y) (show 0 < S by omega)
  have y0 := Int.emod_nonneg (n + y) (show S ≠ 0 by omega)
  have y1 := Int.emod_lt_of_pos (n + y) (show 0 < S by omega)
  rw [← hXv] at x0 x1
  rw [← hYv] at y0 y1
  have fXY : farE b X Y = 0 := by show askS b [X, Y] = 0; rw [askS_two, if_pos hb, hS, if_pos ⟨⟨x0, x1⟩, y0, y1⟩]
  have nXY : farN b X Y = (n - base) % S := by
    unfold farN; rw [fXY, hS]
    show (Y - X) % S = _
    rw [hYv, hXv, Int.sub_eq_add_neg, em_add]
    have e : (n + y + -((base + y) % S)) % S = (-((base + y) % S) + (n + y)) % S := by rw [Int.add_comm]
    rw [e]
    have e2 : -((base + y) % S) = -(base + y) + S * ((base + y) / S) := by
      have := Int.emod_add_mul_ediv (base + y) S
      omega
    rw [e2, show -(base + y) + S * ((base + y) / S) + (n + y) = (n - base) + S * ((base + y) / S) by omega, Int.add_mul_emod_self_left]
  have F0 := Int.emod_nonneg (n - base) (show S ≠ 0 by omega)
  have F1 := Int.emod_lt_of_pos (n - base) (show 0 < S by omega)
  have hgs : goE b base size = 0 := by
    unfold goE
    rw [if_pos (by rw [askS_one, if_pos hb, hS, if_pos k1]), if_neg (by omega)]
  have hgn : goN b base size = (base + size) % S := by unfold goN; rw [hgs, hS]; rfl
  have z0 := Int.emod_nonneg (base + size) (show S ≠ 0 by omega)
  have z1 := Int.emod_lt_of_pos (base + size) (show 0 < S by omega)
  have fBE : farE b base ((base + size) % S) = 0 := by show askS b [base, _] = 0; rw [askS_two, if_pos hb, hS, if_pos ⟨k1, z0, z1⟩]
  refine ⟨(n - base) % S, hf, hFv, F0, ?_, ?_, ?_, hs.1, by omega, hgs, by rw [hgn]; exact fBE, ?_, fun hs1 => ?_⟩
  · unfold inB; rw [h1, hFv]; simp
  · unfold inE; rw [if_pos fXY, hS, if_neg (by omega)]
  · unfold inB
    have : inE b X size Y = 0 := by unfold inE; rw [if_pos fXY, hS, if_neg (by omega)]
    rw [this, nXY]; simp
  · rw [hgn]
    unfold farN; rw [fBE, hS]
    show ((base + size) % S - base) % S = size
    rw [Int.sub_eq_add_neg, em_add, show base + size + -base = size by omega]
    exact Int.emod_eq_of_lt (by omega) (by omega)
  · have key : fnd b base n size.toNat = true ↔ (n - base) % S < size := by
      rw [fnd_iff, hS]
      constructor
      · rintro ⟨j, hj, h⟩
        have : (n - base) % S = j := by
          rw [← h, Int.sub_eq_add_neg, em_add, show base + (j : Int) + -base = (j : Int) by omega]
          exact Int.emod_eq_of_lt (by omega) (by omega)
        omega
      · intro h
        refine ⟨((n - base) % S).toNat, by omega, ?_⟩
        rw [Int.toNat_of_nonneg F0, Int.add_comm, em_add, show n - base + base = n by omega]
        exact Int.emod_eq_of_lt k2.1 k2.2
    by_cases h : (n - base) % S < size
    · rw [decide_eq_true h]; exact key.2 h
    · rw [decide_eq_false h]
      exact Bool.eq_false_iff.2 fun e => h (key.1 e)

set_option maxRecDepth 100000 in
set_option maxHeartbeats 4000000 in
theorem moves_bad (bits base size n by_ E1 E2 E3 X Y : Int) (T : Bool) (w : World) (h1 : inE bits base size n = E1) (x1 : inB bits base size n = T) (h2 : goE bits base by_ = E2) (x2 : goN bits base by_ = X) (h3 : goE bits n by_ = E3) (x3 : goN bits n by_ = Y)
    (hc : ((E1 != 0) = true ∧ (E1 == 0) = false ∧ T = false) ∨ (E1 = 0 ∧ (E2 != 0) = true) ∨ (E1 = 0 ∧ E2 = 0 ∧ (E3 != 0) = true)) :
    Calls Try.prog 5 #[.int .i64 bits, .int .i64 base, .int .i64 size, .int .i64 n, .int .i64 by_] w fun e w' => e = .returned (.bool true) ∧ Frm No w w' := by
  have b0 := Blk.new w #[.int .i64 bits] 23
  have g0 := (Frm.refl No w).alloc (.cells #[.int .i64 bits] 23)
  have H1 := Lib.hid h1
  have H2 := Lib.hid h2
  have H3 := Lib.hid h3
  have Q1 := Lib.hid x1
  have Q2 := Lib.hid x2
  have Q3 := Lib.hid x3
  clear h1 h2 h3 x1 x2 x3
  rcases hc with ⟨d1, d2, rfl⟩ | ⟨rfl, d1⟩ | ⟨rfl, rfl, d1⟩
  · go_enter Try.func5, Try.ntmps5
    go_wp2_with fail
    refine (in_is bits base size n E1 false _ H1.out Q1.out).mono ?_
    rintro e w1 ⟨rfl, f1⟩
    have b1 := f1.blk b0 (fun h => h)
    have g1 := g0.thenN f1
    have c1 : w1.cell? ⟨w.heap.size, 0, none⟩ = some (.int .i64 bits) := b1.cell 0
    clear f1 b0 g0
    go_wp2_with fail
    refine (go_is bits base by_ E2 X _ H2.out Q2.out).mono ?_
    rintro e w2 ⟨rfl, f2⟩
    have b2 := f2.blk b1 (fun h => h)
    have g2 := g1.thenN f2
    have c2 : w2.cell? ⟨w.heap.size, 0, none⟩ = some (.int .i64 bits) := b2.cell 0
    clear f2 b1 g1 c1
    go_wp2_with fail
    refine (go_is bits n by_ E3 Y _ H3.out Q3.out).mono ?_
    rintro e w3 ⟨rfl, f3⟩
    have b3 := f3.blk b2 (fun h => h)
    have g3 := g2.thenN f3
    have c3 : w3.cell? ⟨w.heap.size, 0, none⟩ = some (.int .i64 bits) := b3.cell 0
    clear f3 b2 g2 c2
    go_wp2_with fail
    refine (alive_yes _).mono ?_
    rintro e w4 ⟨rfl, f4⟩
    have b4 := f4.blk b3 (fun h => h)
    have g4 := g3.thenN f4
    have c4 : w4.cell? ⟨w.heap.size, 0, none⟩ = some (.int .i64 bits) := b4.cell 0
    clear f4 b3 g3 c3
    go_wp2_with fail
    go_ret
    exact ⟨rfl, g4⟩
  · go_enter Try.func5, Try.ntmps5
    go_wp2_with fail
    refine (in_is bits base size n 0 T _ H1.out Q1.out).mono ?_
    rintro e w1 ⟨rfl, f1⟩
    have b1 := f1.blk b0 (fun h => h)
    have g1 := g0.thenN f1
    have c1 : w1.cell? ⟨w.heap.size, 0, none⟩ = some (.int .i64 bits) := b1.cell 0
    clear f1 b0 g0
    go_wp2_with fail
    refine (go_is bits base by_ E2 X _ H2.out Q2.out).mono ?_
    rintro e w2 ⟨rfl, f2⟩
    have b2 := f2.blk b1 (fun h => h)
    have g2 := g1.thenN f2
    have c2 : w2.cell? ⟨w.heap.size, 0, none⟩ = some (.int .i64 bits) := b2.cell 0
    clear f2 b1 g1 c1
    go_wp2_with fail
    refine (go_is bits n by_ E3 Y _ H3.out Q3.out).mono ?_
    rintro e w3 ⟨rfl, f3⟩
    have b3 := f3.blk b2 (fun h => h)
    have g3 := g2.thenN f3
    have c3 : w3.cell? ⟨w.heap.size, 0, none⟩ = some (.int .i64 bits) := b3.cell 0
    clear f3 b2 g2 c2
    go_wp2_with fail
    refine (alive_yes _).mono ?_
    rintro e w4 ⟨rfl, f4⟩
    have b4 := f4.blk b3 (fun h => h)
    have g4 := g3.thenN f4
    have c4 : w4.cell? ⟨w.heap.size, 0, none⟩ = some (.int .i64 bits) := b4.cell 0
    clear f4 b3 g3 c3
    go_wp2_with fail
    go_ret
    exact ⟨rfl, g4⟩
  · go_enter Try.func5, Try.ntmps5
    go_wp2_with fail
    refine (in_is bits base size n 0 T _ H1.out Q1.out).mono ?_
    rintro e w1 ⟨rfl, f1⟩
    have b1 := f1.blk b0 (fun h => h)
    have g1 := g0.thenN f1
    have c1 : w1.cell? ⟨w.heap.size, 0, none⟩ = some (.int .i64 bits) := b1.cell 0
    clear f1 b0 g0
    go_wp2_with fail
    refine (go_is bits base by_ 0 X _ H2.out Q2.out).mono ?_
    rintro e w2 ⟨rfl, f2⟩
    have b2 := f2.blk b1 (fun h => h)
    have g2 := g1.thenN f2
    have c2 : w2.cell? ⟨w.heap.size, 0, none⟩ = some (.int .i64 bits) := b2.cell 0
    clear f2 b1 g1 c1
    go_wp2_with fail
    refine (go_is bits n by_ E3 Y _ H3.out Q3.out).mono ?_
    rintro e w3 ⟨rfl, f3⟩
    have b3 := f3.blk b2 (fun h => h)
    have g3 := g2.thenN f3
    have c3 : w3.cell? ⟨w.heap.size, 0, none⟩ = some (.int .i64 bits) := b3.cell 0
    clear f3 b2 g2 c2
    go_wp2_with fail
    refine (alive_yes _).mono ?_
    rintro e w4 ⟨rfl, f4⟩
    have b4 := f4.blk b3 (fun h => h)
    have g4 := g3.thenN f4
    have c4 : w4.cell? ⟨w.heap.size, 0, none⟩ = some (.int .i64 bits) := b4.cell 0
    clear f4 b3 g3 c3
    go_wp2_with fail
    go_ret
    exact ⟨rfl, g4⟩

set_option maxRecDepth 100000 in
set_option maxHeartbeats 4000000 in
theorem moves_ok (bits base size n by_ X Y Z : Int) (T : Bool) (w : World) (h1 : inE bits base size n = 0) (x1 : inB bits base size n = T) (h2 : goE bits base by_ = 0) (x2 : goN bits base by_ = X) (h3 : goE bits n by_ = 0) (x3 : goN bits n by_ = Y)
    (h4 : inE bits X size Y = 0) (x4 : inB bits X size Y = T) (h5 : goE bits base size = 0) (x5 : goN bits base size = Z) (h6 : farE bits base Z = 0) (x6 : farN bits base Z = size) (s1 : 1 ≤ size) (s2 : size ≤ 32768) (hf : size ≤ 1024 → fnd bits base n size.toNat = T) :
    Calls Try.prog 5 #[.int .i64 bits, .int .i64 base, .int .i64 size, .int .i64 n, .int .i64 by_] w fun e w' => e = .returned (.bool true) ∧ Frm No w w' := by
  have b0 := Blk.new w #[.int .i64 bits] 23
  have g0 := (Frm.refl No w).alloc (.cells #[.int .i64 bits] 23)
  have H1 := Lib.hid h1
  have H2 := Lib.hid h2
  have H3 := Lib.hid h3
  have H4 := Lib.hid h4
  have H5 := Lib.hid h5
  have H6 := Lib.hid h6
  have Q1 := Lib.hid x1
  have Q2 := Lib.hid x2
  have Q3 := Lib.hid x3
  have Q4 := Lib.hid x4
  have Q5 := Lib.hid x5
  have Q6 := Lib.hid x6
  have HF := Lib.hid hf
  clear h1 h2 h3 h4 h5 h6 x1 x2 x3 x4 x5 x6 hf
  by_cases hs : 1024 < size
  · go_enter Try.func5, Try.ntmps5
    go_wp2_with fail
    refine (in_is bits base size n 0 T _ H1.out Q1.out).mono ?_
    rintro e w1 ⟨rfl, f1⟩
    have b1 := f1.blk b0 (fun h => h)
    have g1 := g0.thenN f1
    have c1 : w1.cell? ⟨w.heap.size, 0, none⟩ = some (.int .i64 bits) := b1.cell 0
    clear f1 b0 g0
    go_wp2_with fail
    refine (go_is bits base by_ 0 X _ H2.out Q2.out).mono ?_
    rintro e w2 ⟨rfl, f2⟩
    have b2 := f2.blk b1 (fun h => h)
    have g2 := g1.thenN f2
    have c2 : w2.cell? ⟨w.heap.size, 0, none⟩ = some (.int .i64 bits) := b2.cell 0
    clear f2 b1 g1 c1
    go_wp2_with fail
    refine (go_is bits n by_ 0 Y _ H3.out Q3.out).mono ?_
    rintro e w3 ⟨rfl, f3⟩
    have b3 := f3.blk b2 (fun h => h)
    have g3 := g2.thenN f3
    have c3 : w3.cell? ⟨w.heap.size, 0, none⟩ = some (.int .i64 bits) := b3.cell 0
    clear f3 b2 g2 c2
    go_wp2_with fail
    refine (in_is bits X size Y 0 T _ H4.out Q4.out).mono ?_
    rintro e w4 ⟨rfl, f4⟩
    have b4 := f4.blk b3 (fun h => h)
    have g4 := g3.thenN f4
    have c4 : w4.cell? ⟨w.heap.size, 0, none⟩ = some (.int .i64 bits) := b4.cell 0
    clear f4 b3 g3 c3
    go_wp2_with fail
    refine (go_is bits base size 0 Z _ H5.out Q5.out).mono ?_
    rintro e w5 ⟨rfl, f5⟩
    have b5 := f5.blk b4 (fun h => h)
    have g5 := g4.thenN f5
    have c5 : w5.cell? ⟨w.heap.size, 0, none⟩ = some (.int .i64 bits) := b5.cell 0
    clear f5 b4 g4 c4
    go_wp2_with fail
    refine (alive_yes _).mono ?_
    rintro e w6 ⟨rfl, f6⟩
    have b6 := f6.blk b5 (fun h => h)
    have g6 := g5.thenN f6
    have c6 : w6.cell? ⟨w.heap.size, 0, none⟩ = some (.int .i64 bits) := b6.cell 0
    clear f6 b5 g5 c5
    go_wp2_with fail
    go_ret
    exact ⟨rfl, g6⟩
  · obtain ⟨m, rfl⟩ := Int.eq_ofNat_of_zero_le (show 0 ≤ size by omega)
    have hfm := HF.out (by omega)
    rw [Int.toNat_natCast] at hfm
    have HFM := Lib.hid hfm
    clear HF hfm
    go_enter Try.func5, Try.ntmps5
    go_wp2_with fail
    refine (in_is bits base m n 0 T _ H1.out Q1.out).mono ?_
    rintro e w1 ⟨rfl, f1⟩
    have b1 := f1.blk b0 (fun h => h)
    have g1 := g0.thenN f1
    have c1 : w1.cell? ⟨w.heap.size, 0, none⟩ = some (.int .i64 bits) := b1.cell 0
    clear f1 b0 g0
    go_wp2_with fail
    refine (go_is bits base by_ 0 X _ H2.out Q2.out).mono ?_
    rintro e w2 ⟨rfl, f2⟩
    have b2 := f2.blk b1 (fun h => h)
    have g2 := g1.thenN f2
    have c2 : w2.cell? ⟨w.heap.size, 0, none⟩ = some (.int .i64 bits) := b2.cell 0
    clear f2 b1 g1 c1
    go_wp2_with fail
    refine (go_is bits n by_ 0 Y _ H3.out Q3.out).mono ?_
    rintro e w3 ⟨rfl, f3⟩
    have b3 := f3.blk b2 (fun h => h)
    have g3 := g2.thenN f3
    have c3 : w3.cell? ⟨w.heap.size, 0, none⟩ = some (.int .i64 bits) := b3.cell 0
    clear f3 b2 g2 c2
    go_wp2_with fail
    refine (in_is bits X m Y 0 T _ H4.out Q4.out).mono ?_
    rintro e w4 ⟨rfl, f4⟩
    have b4 := f4.blk b3 (fun h => h)
    have g4 := g3.thenN f4
    have c4 : w4.cell? ⟨w.heap.size, 0, none⟩ = some (.int .i64 bits) := b4.cell 0
    clear f4 b3 g3 c3
    go_wp2_with fail
    refine (go_is bits base m 0 Z _ H5.out Q5.out).mono ?_
    rintro e w5 ⟨rfl, f5⟩
    have b5 := f5.blk b4 (fun h => h)
    have g5 := g4.thenN f5
    have c5 : w5.cell? ⟨w.heap.size, 0, none⟩ = some (.int .i64 bits) := b5.cell 0
    clear f5 b4 g4 c4
    go_wp2_with fail
    refine (between_ok bits base Z m _ H6.out Q6.out (by omega)).mono ?_
    rintro e w6 ⟨v, rfl, ho, f6⟩
    have g6 := g5.thenN f6
    obtain ⟨A, c, rfl, _, hcl⟩ := own_cells ho
    rw [run_length] at hcl ⊢
    have hcell : ∀ j, j < m → ∃ ad, A = some ad ∧ ad.block < w6.heap.size ∧ w6.cell? (ad.add j) = some (.int .i64 ((base + j) % sz bits)) := fun j hj => by
      obtain ⟨ad, e, hc⟩ := hcl j hj
      refine ⟨ad, e, ?_, ?_⟩
      · have := World.block_lt_of_cell? _ _ hc
        rwa [block_add] at this
      · rw [hc]
        simp [run, hj]
    clear hcl ho f6 b5 g5 c5
    go_wp2_with fail
    go_loopw [24, 25] (fun vf vi wr => wr = w6 ∧ ∃ k : Nat, vi = .int .i64 k ∧ k ≤ m ∧ vf = .bool (fnd bits base n k)) (fun _ vi _ => m - (intOf vi).toNat)
    case atStart => exact ⟨rfl, 0, rfl, by omega, rfl⟩
    case round =>
      obtain ⟨rfl, k, rfl, hk, rfl⟩ := hrel
      by_cases hlt : k < m
      · obtain ⟨ad, rfl, _, hc⟩ := hcell k hlt
        have hnext : fnd bits base n (k + 1) = (fnd bits base n k || ((base + k) % sz bits == n)) := rfl
        obtain ⟨z, hz⟩ : ∃ z, (base + k) % sz bits = z := ⟨_, rfl⟩
        rw [hz] at hc hnext
        obtain ⟨q, hq⟩ : ∃ q, fnd bits base n k = q := ⟨_, rfl⟩
        rw [hq] at hnext ⊢
        have HN := Lib.hid hnext
        clear hnext hz hq hcell
        cases q
        · go_wp2_with fail
          go_roundw
          case rel => exact ⟨trivial, k + 1, by go_num, by omega, by rw [HN.out]; rfl⟩
          case measure => simp [intOf]; omega
        · go_wp2_with fail
          go_roundw
          case rel => exact ⟨trivial, k + 1, by go_num, by omega, by rw [HN.out]; rfl⟩
          case measure => simp [intOf]; omega
      · have hkm : k = m := by omega
        subst hkm
        rw [HFM.out]
        clear hcell
        go_wp2_with fail
        refine (alive_yes _).mono ?_
        rintro e w7 ⟨rfl, f7⟩
        go_wp2_with fail
        go_ret
        exact ⟨rfl, g6.thenN f7⟩

theorem moves_walk (bits base size n by_ : Int) (w : World) (_ : (Lit.int .i64 bits).wf = true) (_ : (Lit.int .i64 base).wf = true) (_ : (Lit.int .i64 size).wf = true) (_ : (Lit.int .i64 n).wf = true) (_ : (Lit.int .i64 by_).wf = true) :
    Calls Try.prog 5 #[.int .i64 bits, .int .i64 base, .int .i64 size, .int .i64 n, .int .i64 by_] w fun e w' => e = .returned (.bool true) ∧ Frm No w w' := by
  by_cases h1 : inE bits base size n = 0
  · by_cases h2 : goE bits base by_ = 0
    · by_cases h3 : goE bits n by_ = 0
      · obtain ⟨F, _, _, _, a5, a6, a7, a8, a9, a10, a11, a12, a13⟩ := moves_facts h1 h2 h3 rfl rfl
        exact moves_ok bits base size n by_ _ _ _ _ w h1 a5 h2 rfl h3 rfl a6 a7 a10 rfl a11 a12 a8 a9 a13
      · exact moves_bad bits base size n by_ _ _ _ _ _ _ w rfl rfl rfl rfl rfl rfl (.inr (.inr ⟨h1, h2, by simpa using h3⟩))
    · exact moves_bad bits base size n by_ _ _ _ _ _ _ w rfl rfl rfl rfl rfl rfl (.inr (.inl ⟨h1, by simpa using h2⟩))
  · refine moves_bad bits base size n by_ _ _ _ _ _ _ w rfl rfl rfl rfl rfl rfl (.inl ⟨by simpa using h1, by simpa using h1, ?_⟩)
    unfold inB
    rw [decide_eq_false h1]; rfl
end Go.Proofs.Ytalheackdaianaa.A
