/-
  No cell of these rows narrows 'for every input' (looked for: loops, veiled, ifaces, maps, wideKeys, modest, calm, conditions, laid).
  DERIVED. THE GIVEN ROWS OF THIS SEAT. 3 by the template 'for every input the law returns true; each argument reads behind the call as it read before'; 0 by the template 'total and deterministic' (their statements: YtnilihfhajjmhaaTotals.lean).
  GIVEN WITH THE SEED: the statements are not yours to turn. If you find one false, say at which input.
  Laid BY PROGRAM, IN A SANDBOX (cutbox-rows.mjs): the forced cells as the released guide's own fill.sh prints them over the translation a25706aeb8b00af5… (all of the seat's roots in one cut). By AI agents, Wed Nov 11 2026. No macro, syntax, notation, axiom, sorry.
-/
import Derived.Test.YtnilihfhajjmhaaChecked
import GoSem.Claim
import GoSem.ClaimJoined
import GoSem.ClaimMapViews
import Derived.JoinedTies
import Derived.KernelRfl
namespace Go.Proofs.Ytnilihfhajjmhaa
/- THE CELL 'sum', in the pinned program and in every row, IS THE sha256 OF THE DUMP (.gsa) THAT YtnilihfhajjmhaaProg.lean LOADS. Nothing in Lean hashes anything: it is a label: what it is worth is what the hold of that sum in a sandbox is worth. -/
noncomputable def Try.pinned : Pinned := { name := "ytnilihfhajjmhaa", sum := "a25706aeb8b00af5a809a15e36df74c5efa1e5269a8821fd4a40253008667965", checked := Try.checked }
namespace Rows
def none {H : Type} : Left H := { results := [], args := [] }

/-- 'bowlinelaw21.PollSoon': WHATEVER THE INPUT: true; the input reads as it did. -/
def pollSoonSpec : ChangeSpec := { name := "pollSoon", fn := fun _ => fun
  | [d1, d2, d3] => { results := [.lit (.bool true)], args := [d1, d2, d3] }
  | _ => none }
def pollSoonRow : OpenClaim := { program := "ytnilihfhajjmhaa", sum := "a25706aeb8b00af5a809a15e36df74c5efa1e5269a8821fd4a40253008667965", func := "bowline/bowlinelaw21.PollSoon", spec := "pollSoon", apart := false }
def PollSoonSaid : Prop := pollSoonRow.holds Try.pinned (OpenSpec.ofChange pollSoonSpec)

/-- ITS FALSE NEIGHBOUR: 'it returns false'. Refute it at one input. -/
def pollSoonWrong : ChangeSpec := { name := "pollSoon", fn := fun _ => fun
  | [d1, d2, d3] => { results := [.lit (.bool false)], args := [d1, d2, d3] }
  | _ => none }
def PollSoonWrongFalsely : Prop := pollSoonRow.holds Try.pinned (OpenSpec.ofChange pollSoonWrong)

/-- 'bowlinelaw21.PollEmpty': WHATEVER THE INPUT: true; the input reads as it did. -/
def pollEmptySpec : ChangeSpec := { name := "pollEmpty", fn := fun _ => fun
  | [d1, d2, d3, d4] => { results := [.lit (.bool true)], args := [d1, d2, d3, d4] }
  | _ => none }
def pollEmptyRow : OpenClaim := { program := "ytnilihfhajjmhaa", sum := "a25706aeb8b00af5a809a15e36df74c5efa1e5269a8821fd4a40253008667965", func := "bowline/bowlinelaw21.PollEmpty", spec := "pollEmpty", apart := false }
def PollEmptySaid : Prop := pollEmptyRow.holds Try.pinned (OpenSpec.ofChange pollEmptySpec)

/-- ITS FALSE NEIGHBOUR: 'it returns false'. Refute it at one input. -/
def pollEmptyWrong : ChangeSpec := { name := "pollEmpty", fn := fun _ => fun
  | [d1, d2, d3, d4] => { results := [.lit (.bool false)], args := [d1, d2, d3, d4] }
  | _ => none }
def PollEmptyWrongFalsely : Prop := pollEmptyRow.holds Try.pinned (OpenSpec.ofChange pollEmptyWrong)

/-- 'bowlinelaw21.PollLives': WHATEVER THE INPUT: true; the input reads as it did. -/
def pollLivesSpec : ChangeSpec := { name := "pollLives", fn := fun _ => fun
  | [d1, d2, d3] => { results := [.lit (.bool true)], args := [d1, d2, d3] }
  | _ => none }
def pollLivesRow : OpenClaim := { program := "ytnilihfhajjmhaa", sum := "a25706aeb8b00af5a809a15e36df74c5efa1e5269a8821fd4a40253008667965", func := "bowline/bowlinelaw21.PollLives", spec := "pollLives", apart := false }
def PollLivesSaid : Prop := pollLivesRow.holds Try.pinned (OpenSpec.ofChange pollLivesSpec)

/-- ITS FALSE NEIGHBOUR: 'it returns false'. Refute it at one input. -/
def pollLivesWrong : ChangeSpec := { name := "pollLives", fn := fun _ => fun
  | [d1, d2, d3] => { results := [.lit (.bool false)], args := [d1, d2, d3] }
  | _ => none }
def PollLivesWrongFalsely : Prop := pollLivesRow.holds Try.pinned (OpenSpec.ofChange pollLivesWrong)

/- THE SECOND FORM. 'bulk': how many values and letters a reading holds, each counted each time it is reached (what is shared counts as often as it is met; a slice's spare places count too). A statement '..UptoSaid' is the law's where the arguments, and the package variables that the reading takes, are together of bulk at most 1048576: NARROWER than '..Said'. Prove '..Said' where nothing that the law and all that it calls make is longer than what came in: it says more and counts as full. Else prove '..UptoSaid'. A law counts once. -/
mutual
def uptoBulk {H : Type} : DataW H → Nat
  | .lit (.string bytes) => bytes.length + 1
  | .lit _ => 1
  | .nil => 1
  | .ptr d => uptoBulk d + 1
  | .slice elems spare => uptoBulkAll elems + uptoBulkAll spare + 1
  | .agg parts => uptoBulkAll parts + 1
  | .iface _ d => uptoBulk d + 1
  | .map entries => uptoBulkEntries entries + 1
  | .held _ => 1
def uptoBulkAll {H : Type} : List (DataW H) → Nat
  | [] => 0
  | d :: r => uptoBulk d + uptoBulkAll r
def uptoBulkEntries {H : Type} : List (Lit × DataW H) → Nat
  | [] => 0
  | x :: r => uptoBulkEntry x + uptoBulkEntries r
def uptoBulkEntry {H : Type} : Lit × DataW H → Nat
  | (.string bytes, d) => bytes.length + uptoBulk d + 1
  | (_, d) => uptoBulk d + 1
 end
def uptoSmall : (H : Type) → List (DataW H) → Bool := fun _ ds => decide (uptoBulkAll ds ≤ 1048576)
def OpenSpec.upto (s : _root_.Go.ChangeSpec) : _root_.Go.OpenSpec := { _root_.Go.OpenSpec.ofChange s with cond := some uptoSmall }

/-- 'bowlinelaw21.PollSoon', WHERE WHAT IT READS IS OF BULK AT MOST 1048576: true; the input reads as it did. -/
def pollSoonUptoRow : OpenClaim := { program := "ytnilihfhajjmhaa", sum := "a25706aeb8b00af5a809a15e36df74c5efa1e5269a8821fd4a40253008667965", func := "bowline/bowlinelaw21.PollSoon", spec := "pollSoon", apart := false, narrowed := true }
def PollSoonUptoSaid : Prop := pollSoonUptoRow.holds Try.pinned (OpenSpec.upto pollSoonSpec)

/-- 'bowlinelaw21.PollEmpty', WHERE WHAT IT READS IS OF BULK AT MOST 1048576: true; the input reads as it did. -/
def pollEmptyUptoRow : OpenClaim := { program := "ytnilihfhajjmhaa", sum := "a25706aeb8b00af5a809a15e36df74c5efa1e5269a8821fd4a40253008667965", func := "bowline/bowlinelaw21.PollEmpty", spec := "pollEmpty", apart := false, narrowed := true }
def PollEmptyUptoSaid : Prop := pollEmptyUptoRow.holds Try.pinned (OpenSpec.upto pollEmptySpec)

/-- 'bowlinelaw21.PollLives', WHERE WHAT IT READS IS OF BULK AT MOST 1048576: true; the input reads as it did. -/
def pollLivesUptoRow : OpenClaim := { program := "ytnilihfhajjmhaa", sum := "a25706aeb8b00af5a809a15e36df74c5efa1e5269a8821fd4a40253008667965", func := "bowline/bowlinelaw21.PollLives", spec := "pollLives", apart := false, narrowed := true }
def PollLivesUptoSaid : Prop := pollLivesUptoRow.holds Try.pinned (OpenSpec.upto pollLivesSpec)

end Rows
end Go.Proofs.Ytnilihfhajjmhaa
