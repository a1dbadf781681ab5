/- Small ones: widths, sizes of lengths, what may be asked. -/
import Derived.Test.YtccaaldfccgncaaQC
namespace Go.Proofs.Ytccaaldfccgncaa.A
open Go.RowKit Go.Proofs.Ytccaaldfccgncaa.K
set_option linter.unusedVariables false
set_option linter.unusedSimpArgs false

theorem cutwidth (w : World) : Calls Try.prog 40 #[.int .i64 11] w fun e w' => e = .returned (.bool true) ∧ w' = w := by
  go_enter Try.func40, Try.ntmps40
  go_wp2_with fail
  go_ret
  exact ⟨rfl, rfl⟩
theorem lenwidth (w : World) : Calls Try.prog 42 #[.int .i64 11] w fun e w' => e = .returned (.bool true) ∧ w' = w := by
  go_enter Try.func42, Try.ntmps42
  go_wp2_with fail
  go_ret
  exact ⟨rfl, rfl⟩
theorem umwidth (w : World) (b : Nat) (h : b = 5 ∨ b = 10) : Calls Try.prog 43 #[.int .i64 b] w fun e w' => e = .returned (.bool true) ∧ w' = w := by
  rcases h with rfl | rfl
  · go_enter Try.func43, Try.ntmps43
    go_wp2_with fail
    go_ret
    exact ⟨rfl, rfl⟩
  · go_enter Try.func43, Try.ntmps43
    go_wp2_with fail
    go_ret
    exact ⟨rfl, rfl⟩
theorem head_is (w : World) (b : Nat) (h : b = 5 ∨ b = 10) : Calls Try.prog 47 #[.int .i64 b] w fun e w' => e = .returned (.int .i64 (b / 5 : Nat)) ∧ w' = w := by
  rcases h with rfl | rfl
  · go_enter Try.func47, Try.ntmps47
    go_wp2_with fail
    go_ret
    exact ⟨rfl, rfl⟩
  · go_enter Try.func47, Try.ntmps47
    go_wp2_with fail
    go_ret
    exact ⟨rfl, rfl⟩
/-- How many bytes n lengths have. -/
def sizeL (n : Nat) : Nat := if n < 1 ∨ 23 < n then 0 else (n * 12 + 7) / 8
theorem sizeL_le (n : Nat) : sizeL n ≤ 35 := by unfold sizeL; split <;> omega
set_option maxRecDepth 100000 in
set_option maxHeartbeats 2000000 in
theorem lensize (w : World) (n : Nat) (hn : n ≤ 100000) : Calls Try.prog 26 #[.int .i64 n, .int .i64 11] w fun e w' => e = .returned (.int .i64 (sizeL n : Nat)) ∧ w' = w := by
  have hw := lenwidth w
  by_cases h1 : n < 1
  · have e : sizeL n = 0 := if_pos (.inl h1)
    rw [e]
    have i1 : (n : Int) < 1 := by omega
    clear h1
    go_enter Try.func26, Try.ntmps26
    go_wp2_with fail
    refine hw.mono ?_
    rintro e w1 ⟨rfl, rfl⟩
    go_wp2_with fail
    go_ret
    exact ⟨rfl, rfl⟩
  by_cases h2 : 23 < n
  · have e : sizeL n = 0 := if_pos (.inr h2)
    rw [e]
    have i1 : ¬ (n : Int) < 1 := by omega
    have i2 : (23 : Int) < (n : Int) := by omega
    clear h1 h2
    go_enter Try.func26, Try.ntmps26
    go_wp2_with fail
    refine hw.mono ?_
    rintro e w1 ⟨rfl, rfl⟩
    go_wp2_with fail
    go_ret
    exact ⟨rfl, rfl⟩
  have e : sizeL n = (n * 12 + 7) / 8 := if_neg (by omega)
  rw [e]
  obtain ⟨q, hq⟩ : ∃ q, (n * 12 + 7) / 8 = q := ⟨_, rfl⟩
  have hq2 : ((n : Int) * 12 + 7).tdiv 8 = (q : Int) := by rw [Int.tdiv_eq_ediv_of_nonneg (by omega)]; omega
  rw [hq]
  have i1 : ¬ (n : Int) < 1 := by omega
  have i2 : ¬ (23 : Int) < (n : Int) := by omega
  have p1 : IntKind.i64.wrap ((n : Int) * 12) = (n : Int) * 12 := IntWalk.i64_in _ ⟨by omega, by omega⟩
  have p2 : IntKind.i64.wrap ((n : Int) * 12 + 8) = (n : Int) * 12 + 8 := IntWalk.i64_in _ ⟨by omega, by omega⟩
  have p3 : IntKind.i64.wrap ((n : Int) * 12 + 8 - 1) = (n : Int) * 12 + 7 := by rw [IntWalk.i64_in _ ⟨by omega, by omega⟩]; omega
  have p4 : ((n : Int) * 12 + 8 - 1) = (n : Int) * 12 + 7 := by omega
  have p5 : IntKind.i64.wrap (q : Int) = (q : Int) := IntWalk.i64_in _ ⟨by omega, by omega⟩
  clear h1 h2 hq
  go_enter Try.func26, Try.ntmps26
  go_wp2_with fail
  refine hw.mono ?_
  rintro e w1 ⟨rfl, rfl⟩
  go_wp2_with fail
  go_ret
  exact ⟨rfl, rfl⟩
set_option maxRecDepth 100000 in
set_option maxHeartbeats 2000000 in
theorem cutask (w : World) (g room : Nat) (h : room ≤ 4000) : Calls Try.prog 23 #[.pointer (some ⟨g, 0, none⟩), .int .i64 room, .int .i64 11] w fun e w' => e = .returned (.int .i64 0) ∧ w' = w := by
  have hw := cutwidth w
  have i1 : ¬ (room : Int) < 0 := by omega
  have i2 : ¬ (4000 : Int) < (room : Int) := by omega
  go_enter Try.func23, Try.ntmps23
  go_wp2_with fail
  refine hw.mono ?_
  rintro e w1 ⟨rfl, rfl⟩
  go_wp2_with fail
  go_ret
  exact ⟨rfl, rfl⟩
end Go.Proofs.Ytccaaldfccgncaa.A
