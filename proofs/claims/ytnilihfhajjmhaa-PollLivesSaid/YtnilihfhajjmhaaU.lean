/- PollLives' walk, whole. -/
import Derived.Test.YtnilihfhajjmhaaT
namespace Go.Proofs.Ytnilihfhajjmhaa.A
open Go.RowKit Go.Proofs.Ytnilihfhajjmhaa.K
theorem lives_walk (P B : Int) (A : Option Addr) (n c : Nat) (ops : List POp) (w : World) (_ : (Lit.int .i64 P).wf = true) (_ : (Lit.int .i64 B).wf = true) (hI : IsOps w A n ops) :
    Calls Try.prog 5 #[.int .i64 P, .int .i64 B, .slice A n c] w fun e w' => e = .returned (.bool true) ∧ Frm No w w' := by
  by_cases h : P < 1 ∨ 1000 < P ∨ B < 1 ∨ 20000 < B
  · exact lives_bad P B A n c w h
  · exact lives_ok P B A n c ops w (by omega) (by omega) (by omega) (by omega) hI
end Go.Proofs.Ytnilihfhajjmhaa.A
