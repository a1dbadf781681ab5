/-
  No cell of these rows narrows 'for every input' (looked for: loops, veiled, ifaces, maps, wideKeys, modest, calm, conditions, laid).
  DERIVED. THE GIVEN ROWS OF THIS SEAT. 4 by the template 'for every input the law returns true; each argument reads behind the call as it read before'; 0 by the template 'total and deterministic' (their statements: YtbhkhabkkghapaaTotals.lean).
  GIVEN WITH THE SEED: the statements are not yours to turn. If you find one false, say at which input.
  Laid BY PROGRAM, IN A SANDBOX (cutbox-rows.mjs): the forced cells as the released guide's own fill.sh prints them over the translation 89d200d44376e8d8… (all of the seat's roots in one cut). By AI agents, Wed Nov 11 2026. No macro, syntax, notation, axiom, sorry.
-/
import Derived.Test.YtbhkhabkkghapaaChecked
import GoSem.Claim
import GoSem.ClaimJoined
import GoSem.ClaimMapViews
import Derived.JoinedTies
import Derived.KernelRfl
namespace Go.Proofs.Ytbhkhabkkghapaa
/- THE CELL 'sum', in the pinned program and in every row, IS THE sha256 OF THE DUMP (.gsa) THAT YtbhkhabkkghapaaProg.lean LOADS. Nothing in Lean hashes anything: it is a label: what it is worth is what the hold of that sum in a sandbox is worth. -/
noncomputable def Try.pinned : Pinned := { name := "ytbhkhabkkghapaa", sum := "89d200d44376e8d88a7d04e38e359a94b01d23749a0e4a943a302dd3c16f8012", checked := Try.checked }
namespace Rows
def none {H : Type} : Left H := { results := [], args := [] }

/-- 'bowlinelaw31.AirTurns': WHATEVER THE INPUT: true; the input reads as it did. -/
def airTurnsSpec : ChangeSpec := { name := "airTurns", fn := fun _ => fun
  | [d1, d2, d3] => { results := [.lit (.bool true)], args := [d1, d2, d3] }
  | _ => none }
def airTurnsRow : OpenClaim := { program := "ytbhkhabkkghapaa", sum := "89d200d44376e8d88a7d04e38e359a94b01d23749a0e4a943a302dd3c16f8012", func := "bowline/bowlinelaw31.AirTurns", spec := "airTurns", apart := false }
def AirTurnsSaid : Prop := airTurnsRow.holds Try.pinned (OpenSpec.ofChange airTurnsSpec)

/-- ITS FALSE NEIGHBOUR: 'it returns false'. Refute it at one input. -/
def airTurnsWrong : ChangeSpec := { name := "airTurns", fn := fun _ => fun
  | [d1, d2, d3] => { results := [.lit (.bool false)], args := [d1, d2, d3] }
  | _ => none }
def AirTurnsWrongFalsely : Prop := airTurnsRow.holds Try.pinned (OpenSpec.ofChange airTurnsWrong)

/-- 'bowlinelaw31.AirMoves': WHATEVER THE INPUT: true; the input reads as it did. -/
def airMovesSpec : ChangeSpec := { name := "airMoves", fn := fun _ => fun
  | [d1, d2, d3] => { results := [.lit (.bool true)], args := [d1, d2, d3] }
  | _ => none }
def airMovesRow : OpenClaim := { program := "ytbhkhabkkghapaa", sum := "89d200d44376e8d88a7d04e38e359a94b01d23749a0e4a943a302dd3c16f8012", func := "bowline/bowlinelaw31.AirMoves", spec := "airMoves", apart := false }
def AirMovesSaid : Prop := airMovesRow.holds Try.pinned (OpenSpec.ofChange airMovesSpec)

/-- ITS FALSE NEIGHBOUR: 'it returns false'. Refute it at one input. -/
def airMovesWrong : ChangeSpec := { name := "airMoves", fn := fun _ => fun
  | [d1, d2, d3] => { results := [.lit (.bool false)], args := [d1, d2, d3] }
  | _ => none }
def AirMovesWrongFalsely : Prop := airMovesRow.holds Try.pinned (OpenSpec.ofChange airMovesWrong)

/-- 'bowlinelaw31.AirLives': WHATEVER THE INPUT: true; the input reads as it did. -/
def airLivesSpec : ChangeSpec := { name := "airLives", fn := fun _ => fun
  | [d] => { results := [.lit (.bool true)], args := [d] }
  | _ => none }
def airLivesRow : OpenClaim := { program := "ytbhkhabkkghapaa", sum := "89d200d44376e8d88a7d04e38e359a94b01d23749a0e4a943a302dd3c16f8012", func := "bowline/bowlinelaw31.AirLives", spec := "airLives", apart := false }
def AirLivesSaid : Prop := airLivesRow.holds Try.pinned (OpenSpec.ofChange airLivesSpec)

/-- ITS FALSE NEIGHBOUR: 'it returns false'. Refute it at one input. -/
def airLivesWrong : ChangeSpec := { name := "airLives", fn := fun _ => fun
  | [d] => { results := [.lit (.bool false)], args := [d] }
  | _ => none }
def AirLivesWrongFalsely : Prop := airLivesRow.holds Try.pinned (OpenSpec.ofChange airLivesWrong)

/-- 'bowlinelaw31.AirCounts': WHATEVER THE INPUT: true; the input reads as it did. -/
def airCountsSpec : ChangeSpec := { name := "airCounts", fn := fun _ => fun
  | [d] => { results := [.lit (.bool true)], args := [d] }
  | _ => none }
def airCountsRow : OpenClaim := { program := "ytbhkhabkkghapaa", sum := "89d200d44376e8d88a7d04e38e359a94b01d23749a0e4a943a302dd3c16f8012", func := "bowline/bowlinelaw31.AirCounts", spec := "airCounts", apart := false }
def AirCountsSaid : Prop := airCountsRow.holds Try.pinned (OpenSpec.ofChange airCountsSpec)

/-- ITS FALSE NEIGHBOUR: 'it returns false'. Refute it at one input. -/
def airCountsWrong : ChangeSpec := { name := "airCounts", fn := fun _ => fun
  | [d] => { results := [.lit (.bool false)], args := [d] }
  | _ => none }
def AirCountsWrongFalsely : Prop := airCountsRow.holds Try.pinned (OpenSpec.ofChange airCountsWrong)

/- THE SECOND FORM. 'bulk': how many values and letters a reading holds, each counted each time it is reached (what is shared counts as often as it is met; a slice's spare places count too). A statement '..UptoSaid' is the law's where the arguments, and the package variables that the reading takes, are together of bulk at most 1048576: NARROWER than '..Said'. Prove '..Said' where nothing that the law and all that it calls make is longer than what came in: it says more and counts as full. Else prove '..UptoSaid'. A law counts once. -/
mutual
def uptoBulk {H : Type} : DataW H → Nat
  | .lit (.string bytes) => bytes.length + 1
  | .lit _ => 1
  | .nil => 1
  | .ptr d => uptoBulk d + 1
  | .slice elems spare => uptoBulkAll elems + uptoBulkAll spare + 1
  | .agg parts => uptoBulkAll parts + 1
  | .iface _ d => uptoBulk d + 1
  | .map entries => uptoBulkEntries entries + 1
  | .held _ => 1
def uptoBulkAll {H : Type} : List (DataW H) → Nat
  | [] => 0
  | d :: r => uptoBulk d + uptoBulkAll r
def uptoBulkEntries {H : Type} : List (Lit × DataW H) → Nat
  | [] => 0
  | x :: r => uptoBulkEntry x + uptoBulkEntries r
def uptoBulkEntry {H : Type} : Lit × DataW H → Nat
  | (.string bytes, d) => bytes.length + uptoBulk d + 1
  | (_, d) => uptoBulk d + 1
 end
def uptoSmall : (H : Type) → List (DataW H) → Bool := fun _ ds => decide (uptoBulkAll ds ≤ 1048576)
def OpenSpec.upto (s : _root_.Go.ChangeSpec) : _root_.Go.OpenSpec := { _root_.Go.OpenSpec.ofChange s with cond := some uptoSmall }

/-- 'bowlinelaw31.AirTurns', WHERE WHAT IT READS IS OF BULK AT MOST 1048576: true; the input reads as it did. -/
def airTurnsUptoRow : OpenClaim := { program := "ytbhkhabkkghapaa", sum := "89d200d44376e8d88a7d04e38e359a94b01d23749a0e4a943a302dd3c16f8012", func := "bowline/bowlinelaw31.AirTurns", spec := "airTurns", apart := false, narrowed := true }
def AirTurnsUptoSaid : Prop := airTurnsUptoRow.holds Try.pinned (OpenSpec.upto airTurnsSpec)

/-- 'bowlinelaw31.AirMoves', WHERE WHAT IT READS IS OF BULK AT MOST 1048576: true; the input reads as it did. -/
def airMovesUptoRow : OpenClaim := { program := "ytbhkhabkkghapaa", sum := "89d200d44376e8d88a7d04e38e359a94b01d23749a0e4a943a302dd3c16f8012", func := "bowline/bowlinelaw31.AirMoves", spec := "airMoves", apart := false, narrowed := true }
def AirMovesUptoSaid : Prop := airMovesUptoRow.holds Try.pinned (OpenSpec.upto airMovesSpec)

/-- 'bowlinelaw31.AirLives', WHERE WHAT IT READS IS OF BULK AT MOST 1048576: true; the input reads as it did. -/
def airLivesUptoRow : OpenClaim := { program := "ytbhkhabkkghapaa", sum := "89d200d44376e8d88a7d04e38e359a94b01d23749a0e4a943a302dd3c16f8012", func := "bowline/bowlinelaw31.AirLives", spec := "airLives", apart := false, narrowed := true }
def AirLivesUptoSaid : Prop := airLivesUptoRow.holds Try.pinned (OpenSpec.upto airLivesSpec)

/-- 'bowlinelaw31.AirCounts', WHERE WHAT IT READS IS OF BULK AT MOST 1048576: true; the input reads as it did. -/
def airCountsUptoRow : OpenClaim := { program := "ytbhkhabkkghapaa", sum := "89d200d44376e8d88a7d04e38e359a94b01d23749a0e4a943a302dd3c16f8012", func := "bowline/bowlinelaw31.AirCounts", spec := "airCounts", apart := false, narrowed := true }
def AirCountsUptoSaid : Prop := airCountsUptoRow.holds Try.pinned (OpenSpec.upto airCountsSpec)

end Rows
end Go.Proofs.Ytbhkhabkkghapaa
