/- What In, Less, Between of a space do. -/
import Derived.Test.YthefmklblfjfeaaB
namespace Go.Proofs.Ythefmklblfjfeaa.A
open Go.RowKit Go.Proofs.Ythefmklblfjfeaa.K Go.Proofs.Ythefmklblfjfeaa.N
set_option linter.unusedVariables false
set_option linter.unusedSimpArgs false

theorem sz_le (b : Int) : 0 ≤ sz b ∧ sz b ≤ 65536 := by
  by_cases h : 1 ≤ b ∧ b ≤ 16
  · have := sz_range h; omega
  · rw [sz_zero h]; omega
theorem farN_le (b x y : Int) : 0 ≤ farN b x y ∧ farN b x y ≤ 65536 := by
  unfold farN
  split
  · rename_i h
    obtain ⟨hb, _⟩ := askS_zero h
    have := sz_range hb
    have h1 := Int.emod_nonneg (y - x) (show sz b ≠ 0 by omega)
    have h2 := Int.emod_lt_of_pos (y - x) (show 0 < sz b by omega)
    omega
  · omega

theorem far_is (b x y E N : Int) (w : World) (hE : farE b x y = E) (hN : farN b x y = N) : Calls Try.prog 33 #[.agg #[.int .i64 b], .int .i64 x, .int .i64 y] w fun e w' => e = .returned (.tuple #[.int .i64 N, .int .i64 E]) ∧ Frm No w w' := hE ▸ hN ▸ far_any b x y w

end Go.Proofs.Ythefmklblfjfeaa.A
