/-
  No cell of these rows narrows 'for every input' (looked for: loops, veiled, ifaces, maps, wideKeys, modest, calm, conditions, laid).
  DERIVED. THE GIVEN ROWS OF THIS SEAT. 3 by the template 'for every input the law returns true; each argument reads behind the call as it read before'; 0 by the template 'total and deterministic' (their statements: YtighfhdkgfgcmaaTotals.lean).
  GIVEN WITH THE SEED: the statements are not yours to turn. If you find one false, say at which input.
  Laid BY PROGRAM, IN A SANDBOX (cutbox-rows.mjs): the forced cells as the released guide's own fill.sh prints them over the translation 77eee9b399e29aa8… (all of the seat's roots in one cut). By AI agents, Wed Nov 11 2026. No macro, syntax, notation, axiom, sorry.
-/
import Derived.Test.YtighfhdkgfgcmaaChecked
import GoSem.Claim
import GoSem.ClaimJoined
import GoSem.ClaimMapViews
import Derived.JoinedTies
import Derived.KernelRfl
namespace Go.Proofs.Ytighfhdkgfgcmaa
/- THE CELL 'sum', in the pinned program and in every row, IS THE sha256 OF THE DUMP (.gsa) THAT YtighfhdkgfgcmaaProg.lean LOADS. Nothing in Lean hashes anything: it is a label: what it is worth is what the hold of that sum in a sandbox is worth. -/
noncomputable def Try.pinned : Pinned := { name := "ytighfhdkgfgcmaa", sum := "77eee9b399e29aa8fc8ac558e1c2708f1cb62f62621dd54c294f8f76f18817c2", checked := Try.checked }
namespace Rows
def none {H : Type} : Left H := { results := [], args := [] }

/-- 'bowlinelaw05.TimersOnce': WHATEVER THE INPUT: true; the input reads as it did. -/
def timersOnceSpec : ChangeSpec := { name := "timersOnce", fn := fun _ => fun
  | [d1, d2, d3] => { results := [.lit (.bool true)], args := [d1, d2, d3] }
  | _ => none }
def timersOnceRow : OpenClaim := { program := "ytighfhdkgfgcmaa", sum := "77eee9b399e29aa8fc8ac558e1c2708f1cb62f62621dd54c294f8f76f18817c2", func := "bowline/bowlinelaw05.TimersOnce", spec := "timersOnce", apart := false }
def TimersOnceSaid : Prop := timersOnceRow.holds Try.pinned (OpenSpec.ofChange timersOnceSpec)

/-- ITS FALSE NEIGHBOUR: 'it returns false'. Refute it at one input. -/
def timersOnceWrong : ChangeSpec := { name := "timersOnce", fn := fun _ => fun
  | [d1, d2, d3] => { results := [.lit (.bool false)], args := [d1, d2, d3] }
  | _ => none }
def TimersOnceWrongFalsely : Prop := timersOnceRow.holds Try.pinned (OpenSpec.ofChange timersOnceWrong)

/-- 'bowlinelaw05.TimersLive': WHATEVER THE INPUT: true; the input reads as it did. -/
def timersLiveSpec : ChangeSpec := { name := "timersLive", fn := fun _ => fun
  | [d] => { results := [.lit (.bool true)], args := [d] }
  | _ => none }
def timersLiveRow : OpenClaim := { program := "ytighfhdkgfgcmaa", sum := "77eee9b399e29aa8fc8ac558e1c2708f1cb62f62621dd54c294f8f76f18817c2", func := "bowline/bowlinelaw05.TimersLive", spec := "timersLive", apart := false }
def TimersLiveSaid : Prop := timersLiveRow.holds Try.pinned (OpenSpec.ofChange timersLiveSpec)

/-- ITS FALSE NEIGHBOUR: 'it returns false'. Refute it at one input. -/
def timersLiveWrong : ChangeSpec := { name := "timersLive", fn := fun _ => fun
  | [d] => { results := [.lit (.bool false)], args := [d] }
  | _ => none }
def TimersLiveWrongFalsely : Prop := timersLiveRow.holds Try.pinned (OpenSpec.ofChange timersLiveWrong)

/-- 'bowlinelaw05.TimersAnew': WHATEVER THE INPUT: true; the input reads as it did. -/
def timersAnewSpec : ChangeSpec := { name := "timersAnew", fn := fun _ => fun
  | [d1, d2, d3, d4, d5] => { results := [.lit (.bool true)], args := [d1, d2, d3, d4, d5] }
  | _ => none }
def timersAnewRow : OpenClaim := { program := "ytighfhdkgfgcmaa", sum := "77eee9b399e29aa8fc8ac558e1c2708f1cb62f62621dd54c294f8f76f18817c2", func := "bowline/bowlinelaw05.TimersAnew", spec := "timersAnew", apart := false }
def TimersAnewSaid : Prop := timersAnewRow.holds Try.pinned (OpenSpec.ofChange timersAnewSpec)

/-- ITS FALSE NEIGHBOUR: 'it returns false'. Refute it at one input. -/
def timersAnewWrong : ChangeSpec := { name := "timersAnew", fn := fun _ => fun
  | [d1, d2, d3, d4, d5] => { results := [.lit (.bool false)], args := [d1, d2, d3, d4, d5] }
  | _ => none }
def TimersAnewWrongFalsely : Prop := timersAnewRow.holds Try.pinned (OpenSpec.ofChange timersAnewWrong)

/- THE SECOND FORM. 'bulk': how many values and letters a reading holds, each counted each time it is reached (what is shared counts as often as it is met; a slice's spare places count too). A statement '..UptoSaid' is the law's where the arguments, and the package variables that the reading takes, are together of bulk at most 1048576: NARROWER than '..Said'. Prove '..Said' where nothing that the law and all that it calls make is longer than what came in: it says more and counts as full. Else prove '..UptoSaid'. A law counts once. -/
mutual
def uptoBulk {H : Type} : DataW H → Nat
  | .lit (.string bytes) => bytes.length + 1
  | .lit _ => 1
  | .nil => 1
  | .ptr d => uptoBulk d + 1
  | .slice elems spare => uptoBulkAll elems + uptoBulkAll spare + 1
  | .agg parts => uptoBulkAll parts + 1
  | .iface _ d => uptoBulk d + 1
  | .map entries => uptoBulkEntries entries + 1
  | .held _ => 1
def uptoBulkAll {H : Type} : List (DataW H) → Nat
  | [] => 0
  | d :: r => uptoBulk d + uptoBulkAll r
def uptoBulkEntries {H : Type} : List (Lit × DataW H) → Nat
  | [] => 0
  | x :: r => uptoBulkEntry x + uptoBulkEntries r
def uptoBulkEntry {H : Type} : Lit × DataW H → Nat
  | (.string bytes, d) => bytes.length + uptoBulk d + 1
  | (_, d) => uptoBulk d + 1
 end
def uptoSmall : (H : Type) → List (DataW H) → Bool := fun _ ds => decide (uptoBulkAll ds ≤ 1048576)
def OpenSpec.upto (s : _root_.Go.ChangeSpec) : _root_.Go.OpenSpec := { _root_.Go.OpenSpec.ofChange s with cond := some uptoSmall }

/-- 'bowlinelaw05.TimersOnce', WHERE WHAT IT READS IS OF BULK AT MOST 1048576: true; the input reads as it did. -/
def timersOnceUptoRow : OpenClaim := { program := "ytighfhdkgfgcmaa", sum := "77eee9b399e29aa8fc8ac558e1c2708f1cb62f62621dd54c294f8f76f18817c2", func := "bowline/bowlinelaw05.TimersOnce", spec := "timersOnce", apart := false, narrowed := true }
def TimersOnceUptoSaid : Prop := timersOnceUptoRow.holds Try.pinned (OpenSpec.upto timersOnceSpec)

/-- 'bowlinelaw05.TimersLive', WHERE WHAT IT READS IS OF BULK AT MOST 1048576: true; the input reads as it did. -/
def timersLiveUptoRow : OpenClaim := { program := "ytighfhdkgfgcmaa", sum := "77eee9b399e29aa8fc8ac558e1c2708f1cb62f62621dd54c294f8f76f18817c2", func := "bowline/bowlinelaw05.TimersLive", spec := "timersLive", apart := false, narrowed := true }
def TimersLiveUptoSaid : Prop := timersLiveUptoRow.holds Try.pinned (OpenSpec.upto timersLiveSpec)

/-- 'bowlinelaw05.TimersAnew', WHERE WHAT IT READS IS OF BULK AT MOST 1048576: true; the input reads as it did. -/
def timersAnewUptoRow : OpenClaim := { program := "ytighfhdkgfgcmaa", sum := "77eee9b399e29aa8fc8ac558e1c2708f1cb62f62621dd54c294f8f76f18817c2", func := "bowline/bowlinelaw05.TimersAnew", spec := "timersAnew", apart := false, narrowed := true }
def TimersAnewUptoSaid : Prop := timersAnewUptoRow.holds Try.pinned (OpenSpec.upto timersAnewSpec)

end Rows
end Go.Proofs.Ytighfhdkgfgcmaa
