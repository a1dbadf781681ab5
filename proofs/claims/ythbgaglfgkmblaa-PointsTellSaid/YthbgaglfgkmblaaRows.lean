/-
  No cell of these rows narrows 'for every input' (looked for: loops, veiled, ifaces, maps, wideKeys, modest, calm, conditions, laid).
  DERIVED. THE GIVEN ROWS OF THIS SEAT. 4 by the template 'for every input the law returns true; each argument reads behind the call as it read before'; 0 by the template 'total and deterministic' (their statements: YthbgaglfgkmblaaTotals.lean).
  GIVEN WITH THE SEED: the statements are not yours to turn. If you find one false, say at which input.
  Laid BY PROGRAM, IN A SANDBOX (cutbox-rows.mjs): the forced cells as the released guide's own fill.sh prints them over the translation 5b0583c64feb1640… (all of the seat's roots in one cut). By AI agents, Wed Nov 11 2026. No macro, syntax, notation, axiom, sorry.
-/
import Derived.Test.YthbgaglfgkmblaaChecked
import GoSem.Claim
import GoSem.ClaimJoined
import GoSem.ClaimMapViews
import Derived.JoinedTies
import Derived.KernelRfl
namespace Go.Proofs.Ythbgaglfgkmblaa
/- THE CELL 'sum', in the pinned program and in every row, IS THE sha256 OF THE DUMP (.gsa) THAT YthbgaglfgkmblaaProg.lean LOADS. Nothing in Lean hashes anything: it is a label: what it is worth is what the hold of that sum in a sandbox is worth. -/
noncomputable def Try.pinned : Pinned := { name := "ythbgaglfgkmblaa", sum := "5b0583c64feb1640fc59daa26e115e67ec8791c11391bcd78e39ca13b419fe53", checked := Try.checked }
namespace Rows
def none {H : Type} : Left H := { results := [], args := [] }

/-- 'bowlinelaw06.PointsTell': WHATEVER THE INPUT: true; the input reads as it did. -/
def pointsTellSpec : ChangeSpec := { name := "pointsTell", fn := fun _ => fun
  | [d1, d2, d3] => { results := [.lit (.bool true)], args := [d1, d2, d3] }
  | _ => none }
def pointsTellRow : OpenClaim := { program := "ythbgaglfgkmblaa", sum := "5b0583c64feb1640fc59daa26e115e67ec8791c11391bcd78e39ca13b419fe53", func := "bowline/bowlinelaw06.PointsTell", spec := "pointsTell", inPlace := ["math.archTrunc", "math.Float64bits", "math.Float64frombits"], apart := false }
def PointsTellSaid : Prop := pointsTellRow.holds Try.pinned (OpenSpec.ofChange pointsTellSpec)

/-- ITS FALSE NEIGHBOUR: 'it returns false'. Refute it at one input. -/
def pointsTellWrong : ChangeSpec := { name := "pointsTell", fn := fun _ => fun
  | [d1, d2, d3] => { results := [.lit (.bool false)], args := [d1, d2, d3] }
  | _ => none }
def PointsTellWrongFalsely : Prop := pointsTellRow.holds Try.pinned (OpenSpec.ofChange pointsTellWrong)

/-- 'bowlinelaw06.PointsBack': WHATEVER THE INPUT: true; the input reads as it did. -/
def pointsBackSpec : ChangeSpec := { name := "pointsBack", fn := fun _ => fun
  | [d1, d2, d3] => { results := [.lit (.bool true)], args := [d1, d2, d3] }
  | _ => none }
def pointsBackRow : OpenClaim := { program := "ythbgaglfgkmblaa", sum := "5b0583c64feb1640fc59daa26e115e67ec8791c11391bcd78e39ca13b419fe53", func := "bowline/bowlinelaw06.PointsBack", spec := "pointsBack", inPlace := ["math.archTrunc", "math.Float64bits", "math.Float64frombits"], apart := false }
def PointsBackSaid : Prop := pointsBackRow.holds Try.pinned (OpenSpec.ofChange pointsBackSpec)

/-- ITS FALSE NEIGHBOUR: 'it returns false'. Refute it at one input. -/
def pointsBackWrong : ChangeSpec := { name := "pointsBack", fn := fun _ => fun
  | [d1, d2, d3] => { results := [.lit (.bool false)], args := [d1, d2, d3] }
  | _ => none }
def PointsBackWrongFalsely : Prop := pointsBackRow.holds Try.pinned (OpenSpec.ofChange pointsBackWrong)

/-- 'bowlinelaw06.PointsCount': WHATEVER THE INPUT: true; the input reads as it did. -/
def pointsCountSpec : ChangeSpec := { name := "pointsCount", fn := fun _ => fun
  | [d1, d2] => { results := [.lit (.bool true)], args := [d1, d2] }
  | _ => none }
def pointsCountRow : OpenClaim := { program := "ythbgaglfgkmblaa", sum := "5b0583c64feb1640fc59daa26e115e67ec8791c11391bcd78e39ca13b419fe53", func := "bowline/bowlinelaw06.PointsCount", spec := "pointsCount", inPlace := ["math.archTrunc", "math.Float64bits", "math.Float64frombits"], apart := false }
def PointsCountSaid : Prop := pointsCountRow.holds Try.pinned (OpenSpec.ofChange pointsCountSpec)

/-- ITS FALSE NEIGHBOUR: 'it returns false'. Refute it at one input. -/
def pointsCountWrong : ChangeSpec := { name := "pointsCount", fn := fun _ => fun
  | [d1, d2] => { results := [.lit (.bool false)], args := [d1, d2] }
  | _ => none }
def PointsCountWrongFalsely : Prop := pointsCountRow.holds Try.pinned (OpenSpec.ofChange pointsCountWrong)

/-- 'bowlinelaw06.PointsHalf': WHATEVER THE INPUT: true; the input reads as it did. -/
def pointsHalfSpec : ChangeSpec := { name := "pointsHalf", fn := fun _ => fun
  | [d1, d2] => { results := [.lit (.bool true)], args := [d1, d2] }
  | _ => none }
def pointsHalfRow : OpenClaim := { program := "ythbgaglfgkmblaa", sum := "5b0583c64feb1640fc59daa26e115e67ec8791c11391bcd78e39ca13b419fe53", func := "bowline/bowlinelaw06.PointsHalf", spec := "pointsHalf", inPlace := ["math.archTrunc", "math.Float64bits", "math.Float64frombits"], apart := false }
def PointsHalfSaid : Prop := pointsHalfRow.holds Try.pinned (OpenSpec.ofChange pointsHalfSpec)

/-- ITS FALSE NEIGHBOUR: 'it returns false'. Refute it at one input. -/
def pointsHalfWrong : ChangeSpec := { name := "pointsHalf", fn := fun _ => fun
  | [d1, d2] => { results := [.lit (.bool false)], args := [d1, d2] }
  | _ => none }
def PointsHalfWrongFalsely : Prop := pointsHalfRow.holds Try.pinned (OpenSpec.ofChange pointsHalfWrong)

/- THE SECOND FORM. 'bulk': how many values and letters a reading holds, each counted each time it is reached (what is shared counts as often as it is met; a slice's spare places count too). A statement '..UptoSaid' is the law's where the arguments, and the package variables that the reading takes, are together of bulk at most 1048576: NARROWER than '..Said'. Prove '..Said' where nothing that the law and all that it calls make is longer than what came in: it says more and counts as full. Else prove '..UptoSaid'. A law counts once. -/
mutual
def uptoBulk {H : Type} : DataW H → Nat
  | .lit (.string bytes) => bytes.length + 1
  | .lit _ => 1
  | .nil => 1
  | .ptr d => uptoBulk d + 1
  | .slice elems spare => uptoBulkAll elems + uptoBulkAll spare + 1
  | .agg parts => uptoBulkAll parts + 1
  | .iface _ d => uptoBulk d + 1
  | .map entries => uptoBulkEntries entries + 1
  | .held _ => 1
def uptoBulkAll {H : Type} : List (DataW H) → Nat
  | [] => 0
  | d :: r => uptoBulk d + uptoBulkAll r
def uptoBulkEntries {H : Type} : List (Lit × DataW H) → Nat
  | [] => 0
  | x :: r => uptoBulkEntry x + uptoBulkEntries r
def uptoBulkEntry {H : Type} : Lit × DataW H → Nat
  | (.string bytes, d) => bytes.length + uptoBulk d + 1
  | (_, d) => uptoBulk d + 1
 end
def uptoSmall : (H : Type) → List (DataW H) → Bool := fun _ ds => decide (uptoBulkAll ds ≤ 1048576)
def OpenSpec.upto (s : _root_.Go.ChangeSpec) : _root_.Go.OpenSpec := { _root_.Go.OpenSpec.ofChange s with cond := some uptoSmall }

/-- 'bowlinelaw06.PointsTell', WHERE WHAT IT READS IS OF BULK AT MOST 1048576: true; the input reads as it did. -/
def pointsTellUptoRow : OpenClaim := { program := "ythbgaglfgkmblaa", sum := "5b0583c64feb1640fc59daa26e115e67ec8791c11391bcd78e39ca13b419fe53", func := "bowline/bowlinelaw06.PointsTell", spec := "pointsTell", inPlace := ["math.archTrunc", "math.Float64bits", "math.Float64frombits"], apart := false, narrowed := true }
def PointsTellUptoSaid : Prop := pointsTellUptoRow.holds Try.pinned (OpenSpec.upto pointsTellSpec)

/-- 'bowlinelaw06.PointsBack', WHERE WHAT IT READS IS OF BULK AT MOST 1048576: true; the input reads as it did. -/
def pointsBackUptoRow : OpenClaim := { program := "ythbgaglfgkmblaa", sum := "5b0583c64feb1640fc59daa26e115e67ec8791c11391bcd78e39ca13b419fe53", func := "bowline/bowlinelaw06.PointsBack", spec := "pointsBack", inPlace := ["math.archTrunc", "math.Float64bits", "math.Float64frombits"], apart := false, narrowed := true }
def PointsBackUptoSaid : Prop := pointsBackUptoRow.holds Try.pinned (OpenSpec.upto pointsBackSpec)

/-- 'bowlinelaw06.PointsCount', WHERE WHAT IT READS IS OF BULK AT MOST 1048576: true; the input reads as it did. -/
def pointsCountUptoRow : OpenClaim := { program := "ythbgaglfgkmblaa", sum := "5b0583c64feb1640fc59daa26e115e67ec8791c11391bcd78e39ca13b419fe53", func := "bowline/bowlinelaw06.PointsCount", spec := "pointsCount", inPlace := ["math.archTrunc", "math.Float64bits", "math.Float64frombits"], apart := false, narrowed := true }
def PointsCountUptoSaid : Prop := pointsCountUptoRow.holds Try.pinned (OpenSpec.upto pointsCountSpec)

/-- 'bowlinelaw06.PointsHalf', WHERE WHAT IT READS IS OF BULK AT MOST 1048576: true; the input reads as it did. -/
def pointsHalfUptoRow : OpenClaim := { program := "ythbgaglfgkmblaa", sum := "5b0583c64feb1640fc59daa26e115e67ec8791c11391bcd78e39ca13b419fe53", func := "bowline/bowlinelaw06.PointsHalf", spec := "pointsHalf", inPlace := ["math.archTrunc", "math.Float64bits", "math.Float64frombits"], apart := false, narrowed := true }
def PointsHalfUptoSaid : Prop := pointsHalfUptoRow.holds Try.pinned (OpenSpec.upto pointsHalfSpec)

end Rows
end Go.Proofs.Ythbgaglfgkmblaa
