/- What the document's Go, Far, In, Between do: just what the program's do. -/
import Derived.Test.YtalheackdaianaaE
namespace Go.Proofs.Ytalheackdaianaa.A
open Go.RowKit Go.Proofs.Ytalheackdaianaa.K Go.Proofs.Ytalheackdaianaa.N
set_option linter.unusedVariables false
set_option linter.unusedSimpArgs false

theorem mod_is (n m r : Int) (w : World) (hr : n % m = r) (hm : 0 < m) (hm2 : m ≤ 65536) (h1 : -1000000 ≤ n) (h2 : n ≤ 1000000) :
    Calls Try.prog 24 #[.int .i64 n, .int .i64 m] w fun e w' => e = .returned (.int .i64 r) ∧ w = w' := hr ▸ mod_any n m w hm hm2 h1 h2

theorem askS_one (b x : Int) : askS b [x] = if 1 ≤ b ∧ b ≤ 16 then (if 0 ≤ x ∧ x < sz b then 0 else 1) else 3 := by simp [askS]
theorem askS_two (b x y : Int) : askS b [x, y] = if 1 ≤ b ∧ b ≤ 16 then (if (0 ≤ x ∧ x < sz b) ∧ (0 ≤ y ∧ y < sz b) then 0 else 1) else 3 := by simp [askS]

set_option maxHeartbeats 2000000 in
theorem rgo_any (b x y : Int) (w : World) : Calls Try.prog 9 #[.int .i64 b, .int .i64 x, .int .i64 y] w fun e w' => e = .returned (.tuple #[.int .i64 (goN b x y), .int .i64 (goE b x y)]) ∧ w = w' := by
  obtain ⟨S, hS⟩ : ∃ S, sz b = S := ⟨_, rfl⟩
  by_cases hb : 1 ≤ b ∧ b ≤ 16
  · have hr := sz_range hb
    rw [hS] at hr
    have hz : (S == 0) = false := by simp; omega
    by_cases hx : 0 ≤ x ∧ x < sz b
    · have ha : askS b [x] = 0 := by rw [askS_one, if_pos hb, if_pos hx]
      have hd : decide (0 ≤ x ∧ x < sz b) = true := decide_eq_true hx
      rw [hS] at hx
      by_cases hlow : y < -65536
      · have e1 : goE b x y = 1 := by unfold goE; rw [if_pos ha, if_pos (.inl hlow)]
        have e2 : goN b x y = 0 := by unfold goN; rw [e1]; rfl
        rw [e1, e2]
        have HS := Lib.hid hS
        have HD := Lib.hid hd
        clear hS hd ha e1 e2 hb
        go_enter Try.func9, Try.ntmps9
        go_wp2_with fail
        refine (rsize_is b S _ HS.out).mono ?_
        rintro e w1 ⟨rfl, rfl⟩
        go_wp2_with fail
        refine (ris_is b x true _ HD.out).mono ?_
        rintro e w1 ⟨rfl, rfl⟩
        go_wp2_with fail
        go_ret2
        exact ⟨rfl, rfl⟩
      · by_cases hhigh : 65536 < y
        · have e1 : goE b x y = 1 := by unfold goE; rw [if_pos ha, if_pos (.inr hhigh)]
          have e2 : goN b x y = 0 := by unfold goN; rw [e1]; rfl
          rw [e1, e2]
          have HS := Lib.hid hS
          have HD := Lib.hid hd
          clear hS hd ha e1 e2 hb
          go_enter Try.func9, Try.ntmps9
          go_wp2_with fail
          refine (rsize_is b S _ HS.out).mono ?_
          rintro e w1 ⟨rfl, rfl⟩
          go_wp2_with fail
          refine (ris_is b x true _ HD.out).mono ?_
          rintro e w1 ⟨rfl, rfl⟩
          go_wp2_with fail
          go_ret2
          exact ⟨rfl, rfl⟩
        · have e1 : goE b x y = 0 := by unfold goE; rw [if_pos ha, if_neg (by omega)]
          have e2 : goN b x y = (x + y) % S := by unfold goN; rw [e1, ← hS]; rfl
          rw [e1, e2]
          obtain ⟨R, hR⟩ : ∃ R, (x + y) % S = R := ⟨_, rfl⟩
          rw [hR]
          have HS := Lib.hid hS
          have HD := Lib.hid hd
          have HR := Lib.hid hR
          clear hS hd ha e1 e2 hb hR
          go_enter Try.func9, Try.ntmps9
          go_wp2_with fail
          refine (rsize_is b S _ HS.out).mono ?_
          rintro e w1 ⟨rfl, rfl⟩
          go_wp2_with fail
          refine (ris_is b x true _ HD.out).mono ?_
          rintro e w1 ⟨rfl, rfl⟩
          go_wp2_with fail
          refine (rsize_is b S _ HS.out).mono ?_
          rintro e w1 ⟨rfl, rfl⟩
          go_wp2_with fail
          refine (mod_is (x + y) S R _ HR.out (by omega) (by omega) (by omega) (by omega)).mono ?_
          rintro e w1 ⟨rfl, rfl⟩
          go_wp2_with fail
          go_ret2
          exact ⟨rfl, rfl⟩
    · have ha : askS b [x] = 1 := by rw [askS_one, if_pos hb, if_neg hx]
      have hd : decide (0 ≤ x ∧ x < sz b) = false := decide_eq_false hx
      have e1 : goE b x y = 1 := by unfold goE; rw [ha]; rfl
      have e2 : goN b x y = 0 := by unfold goN; rw [e1]; rfl
      rw [e1, e2]
      have HS := Lib.hid hS
      have HD := Lib.hid hd
      clear hS hd ha e1 e2 hb hx
      go_enter Try.func9, Try.ntmps9
      go_wp2_with fail
      refine (rsize_is b S _ HS.out).mono ?_
      rintro e w1 ⟨rfl, rfl⟩
      go_wp2_with fail
      refine (ris_is b x false _ HD.out).mono ?_
      rintro e w1 ⟨rfl, rfl⟩
      go_wp2_with fail
      go_ret2
      exact ⟨rfl, rfl⟩
  · have hs := sz_zero hb
    have ha : askS b [x] = 3 := by rw [askS_one, if_neg hb]
    have e1 : goE b x y = 3 := by unfold goE; rw [ha]; rfl
    have e2 : goN b x y = 0 := by unfold goN; rw [e1]; rfl
    rw [e1, e2]
    have HS := Lib.hid hs
    clear hs ha e1 e2 hb hS
    go_enter Try.func9, Try.ntmps9
    go_wp2_with fail
    refine (rsize_is b 0 _ HS.out).mono ?_
    rintro e w1 ⟨rfl, rfl⟩
    go_wp2_with fail
    go_ret2
    exact ⟨rfl, rfl⟩

set_option maxHeartbeats 2000000 in
theorem rfar_any (b x y : Int) (w : World) : Calls Try.prog 11 #[.int .i64 b, .int .i64 x, .int .i64 y] w fun e w' => e = .returned (.tuple #[.int .i64 (farN b x y), .int .i64 (farE b x y)]) ∧ w = w' := by
  obtain ⟨S, hS⟩ : ∃ S, sz b = S := ⟨_, rfl⟩
  by_cases hb : 1 ≤ b ∧ b ≤ 16
  · have hr := sz_range hb
    rw [hS] at hr
    have hz : (S == 0) = false := by simp; omega
    by_cases hx : 0 ≤ x ∧ x < sz b
    · have hd : decide (0 ≤ x ∧ x < sz b) = true := decide_eq_true hx
      by_cases hy : 0 ≤ y ∧ y < sz b
      · have ha : askS b [x, y] = 0 := by rw [askS_two, if_pos hb, if_pos ⟨hx, hy⟩]
        have hd2 : decide (0 ≤ y ∧ y < sz b) = true := decide_eq_true hy
        have e2 : farN b x y = (y - x) % S := by unfold farN farE; rw [ha, ← hS]; rfl
        have e1 : farE b x y = 0 := ha
        rw [hS] at hx hy
        rw [e1, e2]
        obtain ⟨R, hR⟩ : ∃ R, (y - x) % S = R := ⟨_, rfl⟩
        rw [hR]
        have HS := Lib.hid hS
        have HD := Lib.hid hd
        have HD2 := Lib.hid hd2
        have HR := Lib.hid hR
        clear hS hd hd2 ha e1 e2 hb hR
        go_enter Try.func11, Try.ntmps11
        go_wp2_with fail
        refine (rsize_is b S _ HS.out).mono ?_
        rintro e w1 ⟨rfl, rfl⟩
        go_wp2_with fail
        refine (ris_is b x true _ HD.out).mono ?_
        rintro e w1 ⟨rfl, rfl⟩
        go_wp2_with fail
        refine (ris_is b y true _ HD2.out).mono ?_
        rintro e w1 ⟨rfl, rfl⟩
        go_wp2_with fail
        refine (rsize_is b S _ HS.out).mono ?_
        rintro e w1 ⟨rfl, rfl⟩
        go_wp2_with fail
        refine (mod_is (y - x) S R _ HR.out (by omega) (by omega) (by omega) (by omega)).mono ?_
        rintro e w1 ⟨rfl, rfl⟩
        go_wp2_with fail
        go_ret2
        exact ⟨rfl, rfl⟩
      · have ha : askS b [x, y] = 1 := by rw [askS_two, if_pos hb, if_neg (fun h => hy h.2)]
        have hd2 : decide (0 ≤ y ∧ y < sz b) = false := decide_eq_false hy
        have e1 : farE b x y = 1 := ha
        have e2 : farN b x y = 0 := by unfold farN; rw [e1]; rfl
        rw [e1, e2]
        have HS := Lib.hid hS
        have HD := Lib.hid hd
        have HD2 := Lib.hid hd2
        clear hS hd hd2 ha e1 e2 hb hx hy
        go_enter Try.func11, Try.ntmps11
        go_wp2_with fail
        refine (rsize_is b S _ HS.out).mono ?_
        rintro e w1 ⟨rfl, rfl⟩
        go_wp2_with fail
        refine (ris_is b x true _ HD.out).mono ?_
        rintro e w1 ⟨rfl, rfl⟩
        go_wp2_with fail
        refine (ris_is b y false _ HD2.out).mono ?_
        rintro e w1 ⟨rfl, rfl⟩
        go_wp2_with fail
        go_ret2
        exact ⟨rfl, rfl⟩
    · have ha : askS b [x, y] = 1 := by rw [askS_two, if_pos hb, if_neg (fun h => hx h.1)]
      have hd : decide (0 ≤ x ∧ x < sz b) = false := decide_eq_false hx
      have e1 : farE b x y = 1 := ha
      have e2 : farN b x y = 0 := by unfold farN; rw [e1]; rfl
      rw [e1, e2]
      have HS := Lib.hid hS
      have HD := Lib.hid hd
      clear hS hd ha e1 e2 hb hx
      go_enter Try.func11, Try.ntmps11
      go_wp2_with fail
      refine (rsize_is b S _ HS.out).mono ?_
      rintro e w1 ⟨rfl, rfl⟩
      go_wp2_with fail
      refine (ris_is b x false _ HD.out).mono ?_
      rintro e w1 ⟨rfl, rfl⟩
      go_wp2_with fail
      go_ret2
      exact ⟨rfl, rfl⟩
  · have hs := sz_zero hb
    have ha : askS b [x, y] = 3 := by rw [askS_two, if_neg hb]
    have e1 : farE b x y = 3 := ha
    have e2 : farN b x y = 0 := by unfold farN; rw [e1]; rfl
    rw [e1, e2]
    have HS := Lib.hid hs
    clear hs ha e1 e2 hb hS
    go_enter Try.func11, Try.ntmps11
    go_wp2_with fail
    refine (rsize_is b 0 _ HS.out).mono ?_
    rintro e w1 ⟨rfl, rfl⟩
    go_wp2_with fail
    go_ret2
    exact ⟨rfl, rfl⟩

theorem rfar_is (b x y E N : Int) (w : World) (hE : farE b x y = E) (hN : farN b x y = N) : Calls Try.prog 11 #[.int .i64 b, .int .i64 x, .int .i64 y] w fun e w' => e = .returned (.tuple #[.int .i64 N, .int .i64 E]) ∧ w = w' := hE ▸ hN ▸ rfar_any b x y w

set_option maxHeartbeats 2000000 in
theorem rin_any (b base size n : Int) (w : World) : Calls Try.prog 13 #[.int .i64 b, .int .i64 base, .int .i64 size, .int .i64 n] w fun e w' => e = .returned (.tuple #[.bool (inB b base size n), .int .i64 (inE b base size n)]) ∧ w = w' := by
  have hsz := sz_le b
  obtain ⟨S, hS⟩ : ∃ S, sz b = S := ⟨_, rfl⟩
  rw [hS] at hsz
  by_cases h0 : farE b base n = 0
  · by_cases h1 : size < 1
    · have e1 : inE b base size n = 1 := by unfold inE; rw [if_pos h0, if_pos (.inl h1)]
      have e2 : inB b base size n = false := by unfold inB; rw [e1]; rfl
      rw [e1, e2]
      have H0 := Lib.hid h0
      clear h0 e1 e2
      go_enter Try.func13, Try.ntmps13
      go_wp2_with fail
      refine (rfar_is b base n 0 _ _ H0.out rfl).mono ?_
      rintro e w1 ⟨rfl, rfl⟩
      go_wp2_with fail
      go_ret2
      exact ⟨rfl, rfl⟩
    · by_cases h2 : S / 2 < size
      · have e1 : inE b base size n = 1 := by unfold inE; rw [if_pos h0, hS, if_pos (.inr h2)]
        have e2 : inB b base size n = false := by unfold inB; rw [e1]; rfl
        rw [e1, e2]
        have H0 := Lib.hid h0
        have HS := Lib.hid hS
        clear h0 e1 e2 hS
        go_enter Try.func13, Try.ntmps13
        go_wp2_with fail
        refine (rfar_is b base n 0 _ _ H0.out rfl).mono ?_
        rintro e w1 ⟨rfl, rfl⟩
        go_wp2_with fail
        refine (rsize_is b S _ HS.out).mono ?_
        rintro e w2 ⟨rfl, rfl⟩
        go_wp2_with fail
        go_ret2
        exact ⟨rfl, rfl⟩
      · have e1 : inE b base size n = 0 := by unfold inE; rw [if_pos h0, hS, if_neg (by omega)]
        have e2 : inB b base size n = decide (farN b base n < size) := by unfold inB; rw [e1]; simp
        rw [e1, e2]
        have H0 := Lib.hid h0
        have HS := Lib.hid hS
        clear h0 e1 e2 hS
        go_enter Try.func13, Try.ntmps13
        go_wp2_with fail
        refine (rfar_is b base n 0 _ _ H0.out rfl).mono ?_
        rintro e w1 ⟨rfl, rfl⟩
        go_wp2_with fail
        refine (rsize_is b S _ HS.out).mono ?_
        rintro e w2 ⟨rfl, rfl⟩
        go_wp2_with fail
        go_ret2
        exact ⟨rfl, rfl⟩
  · have e1 : inE b base size n = farE b base n := by unfold inE; rw [if_neg h0]
    have e2 : inB b base size n = false := by unfold inB; rw [e1, decide_eq_false h0]; rfl
    rw [e1, e2]
    obtain ⟨E, hE⟩ : ∃ E, farE b base n = E := ⟨_, rfl⟩
    rw [hE] at h0
    rw [hE]
    have hd : (E != 0) = true := by simpa using h0
    have HE := Lib.hid hE
    clear hE h0 e1 e2
    go_enter Try.func13, Try.ntmps13
    go_wp2_with fail
    refine (rfar_is b base n E _ _ HE.out rfl).mono ?_
    rintro e w1 ⟨rfl, rfl⟩
    go_wp2_with fail
    go_ret2
    exact ⟨rfl, rfl⟩
end Go.Proofs.Ytalheackdaianaa.A
