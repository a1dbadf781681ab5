/- TxwinStalls' walk, whole. -/
import Derived.Test.YthefmklblfjfeaaW
namespace Go.Proofs.Ythefmklblfjfeaa.A
open Go.RowKit Go.Proofs.Ythefmklblfjfeaa.K Go.Proofs.Ythefmklblfjfeaa.N
set_option linter.unusedVariables false

theorem stalls_walk (b z a : Int) (w : World) (_ : (Lit.int .i64 b).wf = true) (_ : (Lit.int .i64 z).wf = true) (ha : (Lit.int .u8 a).wf = true) :
    Calls Try.prog 4 #[.int .i64 b, .int .i64 z, .int .u8 a] w fun e w' => e = .returned (.bool true) ∧ Frm No w w' := by
  cases hmay : mayW b z with
  | false =>
    go_enter Try.func4, Try.ntmps4
    go_wp2_with fail
    refine (new_bad b z _ hmay).mono ?_
    rintro e w1 ⟨rfl, f1⟩
    go_wp2_with fail
    refine (alive_yes _).mono ?_
    rintro e w2 ⟨rfl, f2⟩
    go_wp2_with fail
    go_ret
    exact ⟨rfl, f1.trans f2⟩
  | true =>
    by_cases hz : z ≤ 40
    · obtain ⟨ρ, h1, h2⟩ := and7 ha
      exact stalls_core b z a ρ w hmay hz h1 h2
    · have hz40 : 40 < z := by omega
      go_enter Try.func4, Try.ntmps4
      go_wp2_with fail
      refine (new_ok b z _ hmay).mono ?_
      rintro e w1 ⟨g, mb, rfl, -, -, -, f1⟩
      go_wp2_with fail
      refine (alive_yes _).mono ?_
      rintro e w2 ⟨rfl, f2⟩
      go_wp2_with fail
      go_ret
      exact ⟨rfl, f1.trans f2⟩
end Go.Proofs.Ythefmklblfjfeaa.A
