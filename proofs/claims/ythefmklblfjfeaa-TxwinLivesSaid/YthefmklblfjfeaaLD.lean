/- TxwinLives' walk, whole. -/
import Derived.Test.YthefmklblfjfeaaLC
namespace Go.Proofs.Ythefmklblfjfeaa.A
open Go.RowKit Go.Proofs.Ythefmklblfjfeaa.K Go.Proofs.Ythefmklblfjfeaa.N
set_option linter.unusedVariables false
set_option linter.unusedSimpArgs false

set_option maxRecDepth 100000 in
set_option maxHeartbeats 4000000 in
theorem lives_walk (b z : Int) (A : Option Addr) (len c : Nat) (ops : List TOp) (ask : Int) (w : World) (_ : (Lit.int .i64 b).wf = true) (_ : (Lit.int .i64 z).wf = true) (hI : IsOps w A len ops) (hask : (Lit.int .i64 ask).wf = true) :
    Calls Try.prog 5 #[.int .i64 b, .int .i64 z, .slice A len c, .int .i64 ask] w fun e w' => e = .returned (.bool true) ∧ Frm No w w' := by
  cases hmay : mayW b z with
  | true => exact lives_core b z ask A len c ops w hmay hask hI
  | false =>
    have hm : ¬ ((1 ≤ b ∧ b ≤ 16) ∧ 1 ≤ z ∧ 2 * z ≤ sz b) := of_decide_eq_false hmay
    by_cases hb : 1 ≤ b ∧ b ≤ 16
    · have hS := sz_range hb
      obtain ⟨S, hSe⟩ : ∃ S, sz b = S := ⟨_, rfl⟩
      rw [hSe] at hS hm
      have htd : S.tdiv 2 = S / 2 := Int.tdiv_eq_ediv_of_nonneg (by omega)
      have d1 : (S == 0) = false := beq_eq_false_iff_ne.2 (by omega)
      by_cases hz : z < 1
      · go_enter Try.func5, Try.ntmps5
        go_wp2_with fail
        refine (new_bad b z _ hmay).mono ?_
        rintro e w1 ⟨rfl, F1⟩
        go_wp2_with fail
        refine (rsize_is b S _ hSe).mono ?_
        rintro e w2 ⟨rfl, rfl⟩
        go_wp2_with fail
        refine (alive_yes _).mono ?_
        rintro e w3 ⟨rfl, f3⟩
        go_wp2_with fail
        go_ret
        exact ⟨rfl, F1.thenN f3⟩
      · have d3 : S / 2 < z := by omega
        go_enter Try.func5, Try.ntmps5
        go_wp2_with fail
        refine (new_bad b z _ hmay).mono ?_
        rintro e w1 ⟨rfl, F1⟩
        go_wp2_with fail
        refine (rsize_is b S _ hSe).mono ?_
        rintro e w2 ⟨rfl, rfl⟩
        go_wp2_with fail
        refine (alive_yes _).mono ?_
        rintro e w3 ⟨rfl, f3⟩
        go_wp2_with fail
        go_ret
        exact ⟨rfl, F1.thenN f3⟩
    · have hSe := sz_zero hb
      clear hb hm
      go_enter Try.func5, Try.ntmps5
      go_wp2_with fail
      refine (new_bad b z _ hmay).mono ?_
      rintro e w1 ⟨rfl, F1⟩
      go_wp2_with fail
      refine (rsize_is b 0 _ hSe).mono ?_
      rintro e w2 ⟨rfl, rfl⟩
      go_wp2_with fail
      refine (alive_yes _).mono ?_
      rintro e w3 ⟨rfl, f3⟩
      go_wp2_with fail
      go_ret
      exact ⟨rfl, F1.thenN f3⟩
end Go.Proofs.Ythefmklblfjfeaa.A
