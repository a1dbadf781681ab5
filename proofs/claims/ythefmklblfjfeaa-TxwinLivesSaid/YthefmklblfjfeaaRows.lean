/-
  No cell of these rows narrows 'for every input' (looked for: loops, veiled, ifaces, maps, wideKeys, modest, calm, conditions, laid).
  DERIVED. THE GIVEN ROWS OF THIS SEAT. 3 by the template 'for every input the law returns true; each argument reads behind the call as it read before'; 0 by the template 'total and deterministic' (their statements: YthefmklblfjfeaaTotals.lean).
  GIVEN WITH THE SEED: the statements are not yours to turn. If you find one false, say at which input.
  Laid BY PROGRAM, IN A SANDBOX (cutbox-rows.mjs): the forced cells as the released guide's own fill.sh prints them over the translation bcf7cda631dd1b4f… (all of the seat's roots in one cut). By AI agents, Wed Nov 11 2026. No macro, syntax, notation, axiom, sorry.
-/
import Derived.Test.YthefmklblfjfeaaChecked
import GoSem.Claim
import GoSem.ClaimJoined
import GoSem.ClaimMapViews
import Derived.JoinedTies
import Derived.KernelRfl
namespace Go.Proofs.Ythefmklblfjfeaa
/- THE CELL 'sum', in the pinned program and in every row, IS THE sha256 OF THE DUMP (.gsa) THAT YthefmklblfjfeaaProg.lean LOADS. Nothing in Lean hashes anything: it is a label: what it is worth is what the hold of that sum in a sandbox is worth. -/
noncomputable def Try.pinned : Pinned := { name := "ythefmklblfjfeaa", sum := "bcf7cda631dd1b4fcf2680badd476707aea41a9b59d41aa9ce1f0dca75940c87", checked := Try.checked }
namespace Rows
def none {H : Type} : Left H := { results := [], args := [] }

/-- 'bowlinelaw18.TxwinMeets': WHATEVER THE INPUT: true; the input reads as it did. -/
def txwinMeetsSpec : ChangeSpec := { name := "txwinMeets", fn := fun _ => fun
  | [d1, d2, d3, d4] => { results := [.lit (.bool true)], args := [d1, d2, d3, d4] }
  | _ => none }
def txwinMeetsRow : OpenClaim := { program := "ythefmklblfjfeaa", sum := "bcf7cda631dd1b4fcf2680badd476707aea41a9b59d41aa9ce1f0dca75940c87", func := "bowline/bowlinelaw18.TxwinMeets", spec := "txwinMeets", apart := false }
def TxwinMeetsSaid : Prop := txwinMeetsRow.holds Try.pinned (OpenSpec.ofChange txwinMeetsSpec)

/-- ITS FALSE NEIGHBOUR: 'it returns false'. Refute it at one input. -/
def txwinMeetsWrong : ChangeSpec := { name := "txwinMeets", fn := fun _ => fun
  | [d1, d2, d3, d4] => { results := [.lit (.bool false)], args := [d1, d2, d3, d4] }
  | _ => none }
def TxwinMeetsWrongFalsely : Prop := txwinMeetsRow.holds Try.pinned (OpenSpec.ofChange txwinMeetsWrong)

/-- 'bowlinelaw18.TxwinStalls': WHATEVER THE INPUT: true; the input reads as it did. -/
def txwinStallsSpec : ChangeSpec := { name := "txwinStalls", fn := fun _ => fun
  | [d1, d2, d3] => { results := [.lit (.bool true)], args := [d1, d2, d3] }
  | _ => none }
def txwinStallsRow : OpenClaim := { program := "ythefmklblfjfeaa", sum := "bcf7cda631dd1b4fcf2680badd476707aea41a9b59d41aa9ce1f0dca75940c87", func := "bowline/bowlinelaw18.TxwinStalls", spec := "txwinStalls", apart := false }
def TxwinStallsSaid : Prop := txwinStallsRow.holds Try.pinned (OpenSpec.ofChange txwinStallsSpec)

/-- ITS FALSE NEIGHBOUR: 'it returns false'. Refute it at one input. -/
def txwinStallsWrong : ChangeSpec := { name := "txwinStalls", fn := fun _ => fun
  | [d1, d2, d3] => { results := [.lit (.bool false)], args := [d1, d2, d3] }
  | _ => none }
def TxwinStallsWrongFalsely : Prop := txwinStallsRow.holds Try.pinned (OpenSpec.ofChange txwinStallsWrong)

/-- 'bowlinelaw18.TxwinLives': WHATEVER THE INPUT: true; the input reads as it did. -/
def txwinLivesSpec : ChangeSpec := { name := "txwinLives", fn := fun _ => fun
  | [d1, d2, d3, d4] => { results := [.lit (.bool true)], args := [d1, d2, d3, d4] }
  | _ => none }
def txwinLivesRow : OpenClaim := { program := "ythefmklblfjfeaa", sum := "bcf7cda631dd1b4fcf2680badd476707aea41a9b59d41aa9ce1f0dca75940c87", func := "bowline/bowlinelaw18.TxwinLives", spec := "txwinLives", apart := false }
def TxwinLivesSaid : Prop := txwinLivesRow.holds Try.pinned (OpenSpec.ofChange txwinLivesSpec)

/-- ITS FALSE NEIGHBOUR: 'it returns false'. Refute it at one input. -/
def txwinLivesWrong : ChangeSpec := { name := "txwinLives", fn := fun _ => fun
  | [d1, d2, d3, d4] => { results := [.lit (.bool false)], args := [d1, d2, d3, d4] }
  | _ => none }
def TxwinLivesWrongFalsely : Prop := txwinLivesRow.holds Try.pinned (OpenSpec.ofChange txwinLivesWrong)

/- THE SECOND FORM. 'bulk': how many values and letters a reading holds, each counted each time it is reached (what is shared counts as often as it is met; a slice's spare places count too). A statement '..UptoSaid' is the law's where the arguments, and the package variables that the reading takes, are together of bulk at most 1048576: NARROWER than '..Said'. Prove '..Said' where nothing that the law and all that it calls make is longer than what came in: it says more and counts as full. Else prove '..UptoSaid'. A law counts once. -/
mutual
def uptoBulk {H : Type} : DataW H → Nat
  | .lit (.string bytes) => bytes.length + 1
  | .lit _ => 1
  | .nil => 1
  | .ptr d => uptoBulk d + 1
  | .slice elems spare => uptoBulkAll elems + uptoBulkAll spare + 1
  | .agg parts => uptoBulkAll parts + 1
  | .iface _ d => uptoBulk d + 1
  | .map entries => uptoBulkEntries entries + 1
  | .held _ => 1
def uptoBulkAll {H : Type} : List (DataW H) → Nat
  | [] => 0
  | d :: r => uptoBulk d + uptoBulkAll r
def uptoBulkEntries {H : Type} : List (Lit × DataW H) → Nat
  | [] => 0
  | x :: r => uptoBulkEntry x + uptoBulkEntries r
def uptoBulkEntry {H : Type} : Lit × DataW H → Nat
  | (.string bytes, d) => bytes.length + uptoBulk d + 1
  | (_, d) => uptoBulk d + 1
 end
def uptoSmall : (H : Type) → List (DataW H) → Bool := fun _ ds => decide (uptoBulkAll ds ≤ 1048576)
def OpenSpec.upto (s : _root_.Go.ChangeSpec) : _root_.Go.OpenSpec := { _root_.Go.OpenSpec.ofChange s with cond := some uptoSmall }

/-- 'bowlinelaw18.TxwinMeets', WHERE WHAT IT READS IS OF BULK AT MOST 1048576: true; the input reads as it did. -/
def txwinMeetsUptoRow : OpenClaim := { program := "ythefmklblfjfeaa", sum := "bcf7cda631dd1b4fcf2680badd476707aea41a9b59d41aa9ce1f0dca75940c87", func := "bowline/bowlinelaw18.TxwinMeets", spec := "txwinMeets", apart := false, narrowed := true }
def TxwinMeetsUptoSaid : Prop := txwinMeetsUptoRow.holds Try.pinned (OpenSpec.upto txwinMeetsSpec)

/-- 'bowlinelaw18.TxwinStalls', WHERE WHAT IT READS IS OF BULK AT MOST 1048576: true; the input reads as it did. -/
def txwinStallsUptoRow : OpenClaim := { program := "ythefmklblfjfeaa", sum := "bcf7cda631dd1b4fcf2680badd476707aea41a9b59d41aa9ce1f0dca75940c87", func := "bowline/bowlinelaw18.TxwinStalls", spec := "txwinStalls", apart := false, narrowed := true }
def TxwinStallsUptoSaid : Prop := txwinStallsUptoRow.holds Try.pinned (OpenSpec.upto txwinStallsSpec)

/-- 'bowlinelaw18.TxwinLives', WHERE WHAT IT READS IS OF BULK AT MOST 1048576: true; the input reads as it did. -/
def txwinLivesUptoRow : OpenClaim := { program := "ythefmklblfjfeaa", sum := "bcf7cda631dd1b4fcf2680badd476707aea41a9b59d41aa9ce1f0dca75940c87", func := "bowline/bowlinelaw18.TxwinLives", spec := "txwinLives", apart := false, narrowed := true }
def TxwinLivesUptoSaid : Prop := txwinLivesUptoRow.holds Try.pinned (OpenSpec.upto txwinLivesSpec)

end Rows
end Go.Proofs.Ythefmklblfjfeaa
