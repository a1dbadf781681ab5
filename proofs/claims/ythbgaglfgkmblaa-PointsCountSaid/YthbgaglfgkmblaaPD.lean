/- PointsCount's walk, whole. -/
import Derived.Test.YthbgaglfgkmblaaPC
namespace Go.Proofs.Ythbgaglfgkmblaa.A
open Go.RowKit Go.Proofs.Ythbgaglfgkmblaa.K Go.Proofs.Ythbgaglfgkmblaa.F Go.Proofs.Ythbgaglfgkmblaa.N
set_option linter.unusedVariables false
set_option linter.unusedSimpArgs false

set_option maxRecDepth 100000 in
set_option maxHeartbeats 4000000 in
theorem count_walk (A : Option Addr) (n c : Nat) (za : List Int) (B : Option Addr) (m d : Nat) (zb : List Int) (w : World) (hA : Ints w .i8 A n za) (hB : Ints w .i8 B m zb) :
    Calls Try.prog 5 #[.slice A n c, .slice B m d] w fun e w' => e = .returned (.bool true) ∧ Frm No w w' := by
  have hn9 : n ≤ 9223372036854775807 := hA.2.1
  have hm9 : m ≤ 9223372036854775807 := hB.2.1
  by_cases hn : n ≤ 1000
  · by_cases hm : m ≤ 1000
    · exact count_core A B n m c d za zb w hn hm hA hB
    · have hn' : ¬ (1000 : Int) < (n : Int) := by omega
      have hm' : (1000 : Int) < (m : Int) := by omega
      clear hA hB
      go_enter Try.func5, Try.ntmps5
      go_wp2_with fail
      refine (alive_yes _).mono ?_
      rintro e w1 ⟨rfl, f1⟩
      go_wp2_with fail
      go_ret
      exact ⟨rfl, f1⟩
  · have hn' : (1000 : Int) < (n : Int) := by omega
    clear hA hB
    go_enter Try.func5, Try.ntmps5
    go_wp2_with fail
    refine (alive_yes _).mono ?_
    rintro e w1 ⟨rfl, f1⟩
    go_wp2_with fail
    go_ret
    exact ⟨rfl, f1⟩
end Go.Proofs.Ythbgaglfgkmblaa.A
