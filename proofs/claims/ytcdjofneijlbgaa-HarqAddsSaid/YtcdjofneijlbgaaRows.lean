/-
  No cell of these rows narrows 'for every input' (looked for: loops, veiled, ifaces, maps, wideKeys, modest, calm, conditions, laid).
  DERIVED. THE GIVEN ROWS OF THIS SEAT. 4 by the template 'for every input the law returns true; each argument reads behind the call as it read before'; 0 by the template 'total and deterministic' (their statements: YtcdjofneijlbgaaTotals.lean).
  GIVEN WITH THE SEED: the statements are not yours to turn. If you find one false, say at which input.
  Laid BY PROGRAM, IN A SANDBOX (cutbox-rows.mjs): the forced cells as the released guide's own fill.sh prints them over the translation 572995825bf3cb46… (all of the seat's roots in one cut). By AI agents, Wed Nov 11 2026. No macro, syntax, notation, axiom, sorry.
-/
import Derived.Test.YtcdjofneijlbgaaChecked
import GoSem.Claim
import GoSem.ClaimJoined
import GoSem.ClaimMapViews
import Derived.JoinedTies
import Derived.KernelRfl
namespace Go.Proofs.Ytcdjofneijlbgaa
/- THE CELL 'sum', in the pinned program and in every row, IS THE sha256 OF THE DUMP (.gsa) THAT YtcdjofneijlbgaaProg.lean LOADS. Nothing in Lean hashes anything: it is a label: what it is worth is what the hold of that sum in a sandbox is worth. -/
noncomputable def Try.pinned : Pinned := { name := "ytcdjofneijlbgaa", sum := "572995825bf3cb461ff2818dec128082784294a31934b4c8d4f0cdd9eacf79be", checked := Try.checked }
namespace Rows
def none {H : Type} : Left H := { results := [], args := [] }

/-- 'bowlinelaw37.HarqLives': WHATEVER THE INPUT: true; the input reads as it did. -/
def harqLivesSpec : ChangeSpec := { name := "harqLives", fn := fun _ => fun
  | [d1, d2] => { results := [.lit (.bool true)], args := [d1, d2] }
  | _ => none }
def harqLivesRow : OpenClaim := { program := "ytcdjofneijlbgaa", sum := "572995825bf3cb461ff2818dec128082784294a31934b4c8d4f0cdd9eacf79be", func := "bowline/bowlinelaw37.HarqLives", spec := "harqLives", inPlace := ["math.archTrunc", "math.Float64bits", "math.Float64frombits"], apart := false }
def HarqLivesSaid : Prop := harqLivesRow.holds Try.pinned (OpenSpec.ofChange harqLivesSpec)

/-- ITS FALSE NEIGHBOUR: 'it returns false'. Refute it at one input. -/
def harqLivesWrong : ChangeSpec := { name := "harqLives", fn := fun _ => fun
  | [d1, d2] => { results := [.lit (.bool false)], args := [d1, d2] }
  | _ => none }
def HarqLivesWrongFalsely : Prop := harqLivesRow.holds Try.pinned (OpenSpec.ofChange harqLivesWrong)

/-- 'bowlinelaw37.HarqSignals': WHATEVER THE INPUT: true; the input reads as it did. -/
def harqSignalsSpec : ChangeSpec := { name := "harqSignals", fn := fun _ => fun
  | [d1, d2, d3, d4] => { results := [.lit (.bool true)], args := [d1, d2, d3, d4] }
  | _ => none }
def harqSignalsRow : OpenClaim := { program := "ytcdjofneijlbgaa", sum := "572995825bf3cb461ff2818dec128082784294a31934b4c8d4f0cdd9eacf79be", func := "bowline/bowlinelaw37.HarqSignals", spec := "harqSignals", inPlace := ["math.archTrunc", "math.Float64bits", "math.Float64frombits"], apart := false }
def HarqSignalsSaid : Prop := harqSignalsRow.holds Try.pinned (OpenSpec.ofChange harqSignalsSpec)

/-- ITS FALSE NEIGHBOUR: 'it returns false'. Refute it at one input. -/
def harqSignalsWrong : ChangeSpec := { name := "harqSignals", fn := fun _ => fun
  | [d1, d2, d3, d4] => { results := [.lit (.bool false)], args := [d1, d2, d3, d4] }
  | _ => none }
def HarqSignalsWrongFalsely : Prop := harqSignalsRow.holds Try.pinned (OpenSpec.ofChange harqSignalsWrong)

/-- 'bowlinelaw37.HarqAdds': WHATEVER THE INPUT: true; the input reads as it did. -/
def harqAddsSpec : ChangeSpec := { name := "harqAdds", fn := fun _ => fun
  | [d1, d2] => { results := [.lit (.bool true)], args := [d1, d2] }
  | _ => none }
def harqAddsRow : OpenClaim := { program := "ytcdjofneijlbgaa", sum := "572995825bf3cb461ff2818dec128082784294a31934b4c8d4f0cdd9eacf79be", func := "bowline/bowlinelaw37.HarqAdds", spec := "harqAdds", inPlace := ["math.archTrunc", "math.Float64bits", "math.Float64frombits"], apart := false }
def HarqAddsSaid : Prop := harqAddsRow.holds Try.pinned (OpenSpec.ofChange harqAddsSpec)

/-- ITS FALSE NEIGHBOUR: 'it returns false'. Refute it at one input. -/
def harqAddsWrong : ChangeSpec := { name := "harqAdds", fn := fun _ => fun
  | [d1, d2] => { results := [.lit (.bool false)], args := [d1, d2] }
  | _ => none }
def HarqAddsWrongFalsely : Prop := harqAddsRow.holds Try.pinned (OpenSpec.ofChange harqAddsWrong)

/-- 'bowlinelaw37.HarqApart': WHATEVER THE INPUT: true; the input reads as it did. -/
def harqApartSpec : ChangeSpec := { name := "harqApart", fn := fun _ => fun
  | [d1, d2] => { results := [.lit (.bool true)], args := [d1, d2] }
  | _ => none }
def harqApartRow : OpenClaim := { program := "ytcdjofneijlbgaa", sum := "572995825bf3cb461ff2818dec128082784294a31934b4c8d4f0cdd9eacf79be", func := "bowline/bowlinelaw37.HarqApart", spec := "harqApart", inPlace := ["math.archTrunc", "math.Float64bits", "math.Float64frombits"], apart := false }
def HarqApartSaid : Prop := harqApartRow.holds Try.pinned (OpenSpec.ofChange harqApartSpec)

/-- ITS FALSE NEIGHBOUR: 'it returns false'. Refute it at one input. -/
def harqApartWrong : ChangeSpec := { name := "harqApart", fn := fun _ => fun
  | [d1, d2] => { results := [.lit (.bool false)], args := [d1, d2] }
  | _ => none }
def HarqApartWrongFalsely : Prop := harqApartRow.holds Try.pinned (OpenSpec.ofChange harqApartWrong)

/- THE SECOND FORM. 'bulk': how many values and letters a reading holds, each counted each time it is reached (what is shared counts as often as it is met; a slice's spare places count too). A statement '..UptoSaid' is the law's where the arguments, and the package variables that the reading takes, are together of bulk at most 1048576: NARROWER than '..Said'. Prove '..Said' where nothing that the law and all that it calls make is longer than what came in: it says more and counts as full. Else prove '..UptoSaid'. A law counts once. -/
mutual
def uptoBulk {H : Type} : DataW H → Nat
  | .lit (.string bytes) => bytes.length + 1
  | .lit _ => 1
  | .nil => 1
  | .ptr d => uptoBulk d + 1
  | .slice elems spare => uptoBulkAll elems + uptoBulkAll spare + 1
  | .agg parts => uptoBulkAll parts + 1
  | .iface _ d => uptoBulk d + 1
  | .map entries => uptoBulkEntries entries + 1
  | .held _ => 1
def uptoBulkAll {H : Type} : List (DataW H) → Nat
  | [] => 0
  | d :: r => uptoBulk d + uptoBulkAll r
def uptoBulkEntries {H : Type} : List (Lit × DataW H) → Nat
  | [] => 0
  | x :: r => uptoBulkEntry x + uptoBulkEntries r
def uptoBulkEntry {H : Type} : Lit × DataW H → Nat
  | (.string bytes, d) => bytes.length + uptoBulk d + 1
  | (_, d) => uptoBulk d + 1
 end
def uptoSmall : (H : Type) → List (DataW H) → Bool := fun _ ds => decide (uptoBulkAll ds ≤ 1048576)
def OpenSpec.upto (s : _root_.Go.ChangeSpec) : _root_.Go.OpenSpec := { _root_.Go.OpenSpec.ofChange s with cond := some uptoSmall }

/-- 'bowlinelaw37.HarqLives', WHERE WHAT IT READS IS OF BULK AT MOST 1048576: true; the input reads as it did. -/
def harqLivesUptoRow : OpenClaim := { program := "ytcdjofneijlbgaa", sum := "572995825bf3cb461ff2818dec128082784294a31934b4c8d4f0cdd9eacf79be", func := "bowline/bowlinelaw37.HarqLives", spec := "harqLives", inPlace := ["math.archTrunc", "math.Float64bits", "math.Float64frombits"], apart := false, narrowed := true }
def HarqLivesUptoSaid : Prop := harqLivesUptoRow.holds Try.pinned (OpenSpec.upto harqLivesSpec)

/-- 'bowlinelaw37.HarqSignals', WHERE WHAT IT READS IS OF BULK AT MOST 1048576: true; the input reads as it did. -/
def harqSignalsUptoRow : OpenClaim := { program := "ytcdjofneijlbgaa", sum := "572995825bf3cb461ff2818dec128082784294a31934b4c8d4f0cdd9eacf79be", func := "bowline/bowlinelaw37.HarqSignals", spec := "harqSignals", inPlace := ["math.archTrunc", "math.Float64bits", "math.Float64frombits"], apart := false, narrowed := true }
def HarqSignalsUptoSaid : Prop := harqSignalsUptoRow.holds Try.pinned (OpenSpec.upto harqSignalsSpec)

/-- 'bowlinelaw37.HarqAdds', WHERE WHAT IT READS IS OF BULK AT MOST 1048576: true; the input reads as it did. -/
def harqAddsUptoRow : OpenClaim := { program := "ytcdjofneijlbgaa", sum := "572995825bf3cb461ff2818dec128082784294a31934b4c8d4f0cdd9eacf79be", func := "bowline/bowlinelaw37.HarqAdds", spec := "harqAdds", inPlace := ["math.archTrunc", "math.Float64bits", "math.Float64frombits"], apart := false, narrowed := true }
def HarqAddsUptoSaid : Prop := harqAddsUptoRow.holds Try.pinned (OpenSpec.upto harqAddsSpec)

/-- 'bowlinelaw37.HarqApart', WHERE WHAT IT READS IS OF BULK AT MOST 1048576: true; the input reads as it did. -/
def harqApartUptoRow : OpenClaim := { program := "ytcdjofneijlbgaa", sum := "572995825bf3cb461ff2818dec128082784294a31934b4c8d4f0cdd9eacf79be", func := "bowline/bowlinelaw37.HarqApart", spec := "harqApart", inPlace := ["math.archTrunc", "math.Float64bits", "math.Float64frombits"], apart := false, narrowed := true }
def HarqApartUptoSaid : Prop := harqApartUptoRow.holds Try.pinned (OpenSpec.upto harqApartSpec)

end Rows
end Go.Proofs.Ytcdjofneijlbgaa
