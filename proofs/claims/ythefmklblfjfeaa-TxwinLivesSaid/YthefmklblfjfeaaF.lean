/- What the document's Go, Far, In, Between do: just what the program's do. -/
import Derived.Test.YthefmklblfjfeaaE
namespace Go.Proofs.Ythefmklblfjfeaa.A
open Go.RowKit Go.Proofs.Ythefmklblfjfeaa.K Go.Proofs.Ythefmklblfjfeaa.N
set_option linter.unusedVariables false
set_option linter.unusedSimpArgs false

theorem mod_is (n m r : Int) (w : World) (hr : n % m = r) (hm : 0 < m) (hm2 : m ≤ 65536) (h1 : -1000000 ≤ n) (h2 : n ≤ 1000000) :
    Calls Try.prog 36 #[.int .i64 n, .int .i64 m] w fun e w' => e = .returned (.int .i64 r) ∧ w = w' := hr ▸ mod_any n m w hm hm2 h1 h2

theorem askS_one (b x : Int) : askS b [x] = if 1 ≤ b ∧ b ≤ 16 then (if 0 ≤ x ∧ x < sz b then 0 else 1) else 3 := by simp [askS]
theorem askS_two (b x y : Int) : askS b [x, y] = if 1 ≤ b ∧ b ≤ 16 then (if (0 ≤ x ∧ x < sz b) ∧ (0 ≤ y ∧ y < sz b) then 0 else 1) else 3 := by simp [askS]

set_option maxHeartbeats 2000000 in
theorem rfar_any (b x y : Int) (w : World) : Calls Try.prog 34 #[.int .i64 b, .int .i64 x, .int .i64 y] w fun e w' => e = .returned (.tuple #[.int .i64 (farN b x y), .int .i64 (farE b x y)]) ∧ w = w' := by
  obtain ⟨S, hS⟩ : ∃ S, sz b = S := ⟨_, rfl⟩
  by_cases hb : 1 ≤ b ∧ b ≤ 16
  · have hr := sz_range hb
    rw [hS] at hr
    have hz : (S == 0) = false := by simp; omega
    by_cases hx : 0 ≤ x ∧ x < sz b
    · have hd : decide (0 ≤ x ∧ x < sz b) = true := decide_eq_true hx
      by_cases hy : 0 ≤ y ∧ y < sz b
      · have ha : askS b [x, y] = 0 := by rw [askS_two, if_pos hb, if_pos ⟨hx, hy⟩]
        have hd2 : decide (0 ≤ y ∧ y < sz b) = true := decide_eq_true hy
        have e2 : farN b x y = (y - x) % S := by unfold farN farE; rw [ha, ← hS]; rfl
        have e1 : farE b x y = 0 := ha
        rw [hS] at hx hy
        rw [e1, e2]
        obtain ⟨R, hR⟩ : ∃ R, (y - x) % S = R := ⟨_, rfl⟩
        rw [hR]
        have HS := Lib.hid hS
        have HD := Lib.hid hd
        have HD2 := Lib.hid hd2
        have HR := Lib.hid hR
        clear hS hd hd2 ha e1 e2 hb hR
        go_enter Try.func34, Try.ntmps34
        go_wp2_with fail
        refine (rsize_is b S _ HS.out).mono ?_
        rintro e w1 ⟨rfl, rfl⟩
        go_wp2_with fail
        refine (ris_is b x true _ HD.out).mono ?_
        rintro e w1 ⟨rfl, rfl⟩
        go_wp2_with fail
        refine (ris_is b y true _ HD2.out).mono ?_
        rintro e w1 ⟨rfl, rfl⟩
        go_wp2_with fail
        refine (rsize_is b S _ HS.out).mono ?_
        rintro e w1 ⟨rfl, rfl⟩
        go_wp2_with fail
        refine (mod_is (y - x) S R _ HR.out (by omega) (by omega) (by omega) (by omega)).mono ?_
        rintro e w1 ⟨rfl, rfl⟩
        go_wp2_with fail
        go_ret2
        exact ⟨rfl, rfl⟩
      · have ha : askS b [x, y] = 1 := by rw [askS_two, if_pos hb, if_neg (fun h => hy h.2)]
        have hd2 : decide (0 ≤ y ∧ y < sz b) = false := decide_eq_false hy
        have e1 : farE b x y = 1 := ha
        have e2 : farN b x y = 0 := by unfold farN; rw [e1]; rfl
        rw [e1, e2]
        have HS := Lib.hid hS
        have HD := Lib.hid hd
        have HD2 := Lib.hid hd2
        clear hS hd hd2 ha e1 e2 hb hx hy
        go_enter Try.func34, Try.ntmps34
        go_wp2_with fail
        refine (rsize_is b S _ HS.out).mono ?_
        rintro e w1 ⟨rfl, rfl⟩
        go_wp2_with fail
        refine (ris_is b x true _ HD.out).mono ?_
        rintro e w1 ⟨rfl, rfl⟩
        go_wp2_with fail
        refine (ris_is b y false _ HD2.out).mono ?_
        rintro e w1 ⟨rfl, rfl⟩
        go_wp2_with fail
        go_ret2
        exact ⟨rfl, rfl⟩
    · have ha : askS b [x, y] = 1 := by rw [askS_two, if_pos hb, if_neg (fun h => hx h.1)]
      have hd : decide (0 ≤ x ∧ x < sz b) = false := decide_eq_false hx
      have e1 : farE b x y = 1 := ha
      have e2 : farN b x y = 0 := by unfold farN; rw [e1]; rfl
      rw [e1, e2]
      have HS := Lib.hid hS
      have HD := Lib.hid hd
      clear hS hd ha e1 e2 hb hx
      go_enter Try.func34, Try.ntmps34
      go_wp2_with fail
      refine (rsize_is b S _ HS.out).mono ?_
      rintro e w1 ⟨rfl, rfl⟩
      go_wp2_with fail
      refine (ris_is b x false _ HD.out).mono ?_
      rintro e w1 ⟨rfl, rfl⟩
      go_wp2_with fail
      go_ret2
      exact ⟨rfl, rfl⟩
  · have hs := sz_zero hb
    have ha : askS b [x, y] = 3 := by rw [askS_two, if_neg hb]
    have e1 : farE b x y = 3 := ha
    have e2 : farN b x y = 0 := by unfold farN; rw [e1]; rfl
    rw [e1, e2]
    have HS := Lib.hid hs
    clear hs ha e1 e2 hb hS
    go_enter Try.func34, Try.ntmps34
    go_wp2_with fail
    refine (rsize_is b 0 _ HS.out).mono ?_
    rintro e w1 ⟨rfl, rfl⟩
    go_wp2_with fail
    go_ret2
    exact ⟨rfl, rfl⟩

theorem rfar_is (b x y E N : Int) (w : World) (hE : farE b x y = E) (hN : farN b x y = N) : Calls Try.prog 34 #[.int .i64 b, .int .i64 x, .int .i64 y] w fun e w' => e = .returned (.tuple #[.int .i64 N, .int .i64 E]) ∧ w = w' := hE ▸ hN ▸ rfar_any b x y w

end Go.Proofs.Ythefmklblfjfeaa.A
