/-
  No cell of these rows narrows 'for every input' (looked for: loops, veiled, ifaces, maps, wideKeys, modest, calm, conditions, laid).
  DERIVED. THE GIVEN ROWS OF THIS SEAT. 5 by the template 'for every input the law returns true; each argument reads behind the call as it read before'; 0 by the template 'total and deterministic' (their statements: YtalheackdaianaaTotals.lean).
  GIVEN WITH THE SEED: the statements are not yours to turn. If you find one false, say at which input.
  Laid BY PROGRAM, IN A SANDBOX (cutbox-rows.mjs): the forced cells as the released guide's own fill.sh prints them over the translation 9eef4beb785ebb17… (all of the seat's roots in one cut). By AI agents, Wed Nov 11 2026. No macro, syntax, notation, axiom, sorry.
-/
import Derived.Test.YtalheackdaianaaChecked
import GoSem.Claim
import GoSem.ClaimJoined
import GoSem.ClaimMapViews
import Derived.JoinedTies
import Derived.KernelRfl
namespace Go.Proofs.Ytalheackdaianaa
/- THE CELL 'sum', in the pinned program and in every row, IS THE sha256 OF THE DUMP (.gsa) THAT YtalheackdaianaaProg.lean LOADS. Nothing in Lean hashes anything: it is a label: what it is worth is what the hold of that sum in a sandbox is worth. -/
noncomputable def Try.pinned : Pinned := { name := "ytalheackdaianaa", sum := "9eef4beb785ebb17761e156ad03edce575631a927abb5de35cbda4da8feb96a1", checked := Try.checked }
namespace Rows
def none {H : Type} : Left H := { results := [], args := [] }

/-- 'bowlinelaw02.SeqnumTells': WHATEVER THE INPUT: true; the input reads as it did. -/
def seqnumTellsSpec : ChangeSpec := { name := "seqnumTells", fn := fun _ => fun
  | [d1, d2, d3, d4, d5] => { results := [.lit (.bool true)], args := [d1, d2, d3, d4, d5] }
  | _ => none }
def seqnumTellsRow : OpenClaim := { program := "ytalheackdaianaa", sum := "9eef4beb785ebb17761e156ad03edce575631a927abb5de35cbda4da8feb96a1", func := "bowline/bowlinelaw02.SeqnumTells", spec := "seqnumTells", apart := false }
def SeqnumTellsSaid : Prop := seqnumTellsRow.holds Try.pinned (OpenSpec.ofChange seqnumTellsSpec)

/-- ITS FALSE NEIGHBOUR: 'it returns false'. Refute it at one input. -/
def seqnumTellsWrong : ChangeSpec := { name := "seqnumTells", fn := fun _ => fun
  | [d1, d2, d3, d4, d5] => { results := [.lit (.bool false)], args := [d1, d2, d3, d4, d5] }
  | _ => none }
def SeqnumTellsWrongFalsely : Prop := seqnumTellsRow.holds Try.pinned (OpenSpec.ofChange seqnumTellsWrong)

/-- 'bowlinelaw02.SeqnumBack': WHATEVER THE INPUT: true; the input reads as it did. -/
def seqnumBackSpec : ChangeSpec := { name := "seqnumBack", fn := fun _ => fun
  | [d1, d2, d3] => { results := [.lit (.bool true)], args := [d1, d2, d3] }
  | _ => none }
def seqnumBackRow : OpenClaim := { program := "ytalheackdaianaa", sum := "9eef4beb785ebb17761e156ad03edce575631a927abb5de35cbda4da8feb96a1", func := "bowline/bowlinelaw02.SeqnumBack", spec := "seqnumBack", apart := false }
def SeqnumBackSaid : Prop := seqnumBackRow.holds Try.pinned (OpenSpec.ofChange seqnumBackSpec)

/-- ITS FALSE NEIGHBOUR: 'it returns false'. Refute it at one input. -/
def seqnumBackWrong : ChangeSpec := { name := "seqnumBack", fn := fun _ => fun
  | [d1, d2, d3] => { results := [.lit (.bool false)], args := [d1, d2, d3] }
  | _ => none }
def SeqnumBackWrongFalsely : Prop := seqnumBackRow.holds Try.pinned (OpenSpec.ofChange seqnumBackWrong)

/-- 'bowlinelaw02.SeqnumMoves': WHATEVER THE INPUT: true; the input reads as it did. -/
def seqnumMovesSpec : ChangeSpec := { name := "seqnumMoves", fn := fun _ => fun
  | [d1, d2, d3, d4, d5] => { results := [.lit (.bool true)], args := [d1, d2, d3, d4, d5] }
  | _ => none }
def seqnumMovesRow : OpenClaim := { program := "ytalheackdaianaa", sum := "9eef4beb785ebb17761e156ad03edce575631a927abb5de35cbda4da8feb96a1", func := "bowline/bowlinelaw02.SeqnumMoves", spec := "seqnumMoves", apart := false }
def SeqnumMovesSaid : Prop := seqnumMovesRow.holds Try.pinned (OpenSpec.ofChange seqnumMovesSpec)

/-- ITS FALSE NEIGHBOUR: 'it returns false'. Refute it at one input. -/
def seqnumMovesWrong : ChangeSpec := { name := "seqnumMoves", fn := fun _ => fun
  | [d1, d2, d3, d4, d5] => { results := [.lit (.bool false)], args := [d1, d2, d3, d4, d5] }
  | _ => none }
def SeqnumMovesWrongFalsely : Prop := seqnumMovesRow.holds Try.pinned (OpenSpec.ofChange seqnumMovesWrong)

/-- 'bowlinelaw02.SeqnumLists': WHATEVER THE INPUT: true; the input reads as it did. -/
def seqnumListsSpec : ChangeSpec := { name := "seqnumLists", fn := fun _ => fun
  | [d1, d2, d3, d4] => { results := [.lit (.bool true)], args := [d1, d2, d3, d4] }
  | _ => none }
def seqnumListsRow : OpenClaim := { program := "ytalheackdaianaa", sum := "9eef4beb785ebb17761e156ad03edce575631a927abb5de35cbda4da8feb96a1", func := "bowline/bowlinelaw02.SeqnumLists", spec := "seqnumLists", apart := false }
def SeqnumListsSaid : Prop := seqnumListsRow.holds Try.pinned (OpenSpec.ofChange seqnumListsSpec)

/-- ITS FALSE NEIGHBOUR: 'it returns false'. Refute it at one input. -/
def seqnumListsWrong : ChangeSpec := { name := "seqnumLists", fn := fun _ => fun
  | [d1, d2, d3, d4] => { results := [.lit (.bool false)], args := [d1, d2, d3, d4] }
  | _ => none }
def SeqnumListsWrongFalsely : Prop := seqnumListsRow.holds Try.pinned (OpenSpec.ofChange seqnumListsWrong)

/-- 'bowlinelaw02.SeqnumOrder': WHATEVER THE INPUT: true; the input reads as it did. -/
def seqnumOrderSpec : ChangeSpec := { name := "seqnumOrder", fn := fun _ => fun
  | [d1, d2, d3, d4, d5] => { results := [.lit (.bool true)], args := [d1, d2, d3, d4, d5] }
  | _ => none }
def seqnumOrderRow : OpenClaim := { program := "ytalheackdaianaa", sum := "9eef4beb785ebb17761e156ad03edce575631a927abb5de35cbda4da8feb96a1", func := "bowline/bowlinelaw02.SeqnumOrder", spec := "seqnumOrder", apart := false }
def SeqnumOrderSaid : Prop := seqnumOrderRow.holds Try.pinned (OpenSpec.ofChange seqnumOrderSpec)

/-- ITS FALSE NEIGHBOUR: 'it returns false'. Refute it at one input. -/
def seqnumOrderWrong : ChangeSpec := { name := "seqnumOrder", fn := fun _ => fun
  | [d1, d2, d3, d4, d5] => { results := [.lit (.bool false)], args := [d1, d2, d3, d4, d5] }
  | _ => none }
def SeqnumOrderWrongFalsely : Prop := seqnumOrderRow.holds Try.pinned (OpenSpec.ofChange seqnumOrderWrong)

/- THE SECOND FORM. 'bulk': how many values and letters a reading holds, each counted each time it is reached (what is shared counts as often as it is met; a slice's spare places count too). A statement '..UptoSaid' is the law's where the arguments, and the package variables that the reading takes, are together of bulk at most 1048576: NARROWER than '..Said'. Prove '..Said' where nothing that the law and all that it calls make is longer than what came in: it says more and counts as full. Else prove '..UptoSaid'. A law counts once. -/
mutual
def uptoBulk {H : Type} : DataW H → Nat
  | .lit (.string bytes) => bytes.length + 1
  | .lit _ => 1
  | .nil => 1
  | .ptr d => uptoBulk d + 1
  | .slice elems spare => uptoBulkAll elems + uptoBulkAll spare + 1
  | .agg parts => uptoBulkAll parts + 1
  | .iface _ d => uptoBulk d + 1
  | .map entries => uptoBulkEntries entries + 1
  | .held _ => 1
def uptoBulkAll {H : Type} : List (DataW H) → Nat
  | [] => 0
  | d :: r => uptoBulk d + uptoBulkAll r
def uptoBulkEntries {H : Type} : List (Lit × DataW H) → Nat
  | [] => 0
  | x :: r => uptoBulkEntry x + uptoBulkEntries r
def uptoBulkEntry {H : Type} : Lit × DataW H → Nat
  | (.string bytes, d) => bytes.length + uptoBulk d + 1
  | (_, d) => uptoBulk d + 1
 end
def uptoSmall : (H : Type) → List (DataW H) → Bool := fun _ ds => decide (uptoBulkAll ds ≤ 1048576)
def OpenSpec.upto (s : _root_.Go.ChangeSpec) : _root_.Go.OpenSpec := { _root_.Go.OpenSpec.ofChange s with cond := some uptoSmall }

/-- 'bowlinelaw02.SeqnumTells', WHERE WHAT IT READS IS OF BULK AT MOST 1048576: true; the input reads as it did. -/
def seqnumTellsUptoRow : OpenClaim := { program := "ytalheackdaianaa", sum := "9eef4beb785ebb17761e156ad03edce575631a927abb5de35cbda4da8feb96a1", func := "bowline/bowlinelaw02.SeqnumTells", spec := "seqnumTells", apart := false, narrowed := true }
def SeqnumTellsUptoSaid : Prop := seqnumTellsUptoRow.holds Try.pinned (OpenSpec.upto seqnumTellsSpec)

/-- 'bowlinelaw02.SeqnumBack', WHERE WHAT IT READS IS OF BULK AT MOST 1048576: true; the input reads as it did. -/
def seqnumBackUptoRow : OpenClaim := { program := "ytalheackdaianaa", sum := "9eef4beb785ebb17761e156ad03edce575631a927abb5de35cbda4da8feb96a1", func := "bowline/bowlinelaw02.SeqnumBack", spec := "seqnumBack", apart := false, narrowed := true }
def SeqnumBackUptoSaid : Prop := seqnumBackUptoRow.holds Try.pinned (OpenSpec.upto seqnumBackSpec)

/-- 'bowlinelaw02.SeqnumMoves', WHERE WHAT IT READS IS OF BULK AT MOST 1048576: true; the input reads as it did. -/
def seqnumMovesUptoRow : OpenClaim := { program := "ytalheackdaianaa", sum := "9eef4beb785ebb17761e156ad03edce575631a927abb5de35cbda4da8feb96a1", func := "bowline/bowlinelaw02.SeqnumMoves", spec := "seqnumMoves", apart := false, narrowed := true }
def SeqnumMovesUptoSaid : Prop := seqnumMovesUptoRow.holds Try.pinned (OpenSpec.upto seqnumMovesSpec)

/-- 'bowlinelaw02.SeqnumLists', WHERE WHAT IT READS IS OF BULK AT MOST 1048576: true; the input reads as it did. -/
def seqnumListsUptoRow : OpenClaim := { program := "ytalheackdaianaa", sum := "9eef4beb785ebb17761e156ad03edce575631a927abb5de35cbda4da8feb96a1", func := "bowline/bowlinelaw02.SeqnumLists", spec := "seqnumLists", apart := false, narrowed := true }
def SeqnumListsUptoSaid : Prop := seqnumListsUptoRow.holds Try.pinned (OpenSpec.upto seqnumListsSpec)

/-- 'bowlinelaw02.SeqnumOrder', WHERE WHAT IT READS IS OF BULK AT MOST 1048576: true; the input reads as it did. -/
def seqnumOrderUptoRow : OpenClaim := { program := "ytalheackdaianaa", sum := "9eef4beb785ebb17761e156ad03edce575631a927abb5de35cbda4da8feb96a1", func := "bowline/bowlinelaw02.SeqnumOrder", spec := "seqnumOrder", apart := false, narrowed := true }
def SeqnumOrderUptoSaid : Prop := seqnumOrderUptoRow.holds Try.pinned (OpenSpec.upto seqnumOrderSpec)

end Rows
end Go.Proofs.Ytalheackdaianaa
