/-
  No cell of these rows narrows 'for every input' (looked for: loops, veiled, ifaces, maps, wideKeys, modest, calm, conditions, laid).
  DERIVED. THE GIVEN ROWS OF THIS SEAT. 10 by the template 'for every input the law returns true; each argument reads behind the call as it read before'; 0 by the template 'total and deterministic' (their statements: YtlepjmnhekeofaaTotals.lean).
  GIVEN WITH THE SEED: the statements are not yours to turn. If you find one false, say at which input.
  Laid BY PROGRAM, IN A SANDBOX (cutbox-rows.mjs): the forced cells as the released guide's own fill.sh prints them over the translation 60cc2d076aa70281… (all of the seat's roots in one cut). By AI agents, Wed Nov 11 2026. No macro, syntax, notation, axiom, sorry.
-/
import Derived.Test.YtlepjmnhekeofaaChecked
import GoSem.Claim
import GoSem.ClaimJoined
import GoSem.ClaimMapViews
import Derived.JoinedTies
import Derived.KernelRfl
namespace Go.Proofs.Ytlepjmnhekeofaa
/- THE CELL 'sum', in the pinned program and in every row, IS THE sha256 OF THE DUMP (.gsa) THAT YtlepjmnhekeofaaProg.lean LOADS. Nothing in Lean hashes anything: it is a label: what it is worth is what the hold of that sum in a sandbox is worth. -/
noncomputable def Try.pinned : Pinned := { name := "ytlepjmnhekeofaa", sum := "60cc2d076aa7028131ed09f1afad9592a3ad5242fa3732f87c80b31b40648ac8", checked := Try.checked }
namespace Rows
def none {H : Type} : Left H := { results := [], args := [] }

/-- 'roundelaylaw11.CountReads': WHATEVER THE INPUT: true; the input reads as it did. -/
def countReadsSpec : ChangeSpec := { name := "countReads", fn := fun _ => fun
  | [d1, d2, d3] => { results := [.lit (.bool true)], args := [d1, d2, d3] }
  | _ => none }
def countReadsRow : OpenClaim := { program := "ytlepjmnhekeofaa", sum := "60cc2d076aa7028131ed09f1afad9592a3ad5242fa3732f87c80b31b40648ac8", func := "roundelay/roundelaylaw11.CountReads", spec := "countReads", unfollowed := true, recurses := true, apart := false }
def CountReadsSaid : Prop := countReadsRow.holds Try.pinned (OpenSpec.ofChange countReadsSpec)

/-- ITS FALSE NEIGHBOUR: 'it returns false'. Refute it at one input. -/
def countReadsWrong : ChangeSpec := { name := "countReads", fn := fun _ => fun
  | [d1, d2, d3] => { results := [.lit (.bool false)], args := [d1, d2, d3] }
  | _ => none }
def CountReadsWrongFalsely : Prop := countReadsRow.holds Try.pinned (OpenSpec.ofChange countReadsWrong)

/-- 'roundelaylaw11.CountSteps': WHATEVER THE INPUT: true; the input reads as it did. -/
def countStepsSpec : ChangeSpec := { name := "countSteps", fn := fun _ => fun
  | [d1, d2, d3] => { results := [.lit (.bool true)], args := [d1, d2, d3] }
  | _ => none }
def countStepsRow : OpenClaim := { program := "ytlepjmnhekeofaa", sum := "60cc2d076aa7028131ed09f1afad9592a3ad5242fa3732f87c80b31b40648ac8", func := "roundelay/roundelaylaw11.CountSteps", spec := "countSteps", unfollowed := true, recurses := true, apart := false }
def CountStepsSaid : Prop := countStepsRow.holds Try.pinned (OpenSpec.ofChange countStepsSpec)

/-- ITS FALSE NEIGHBOUR: 'it returns false'. Refute it at one input. -/
def countStepsWrong : ChangeSpec := { name := "countSteps", fn := fun _ => fun
  | [d1, d2, d3] => { results := [.lit (.bool false)], args := [d1, d2, d3] }
  | _ => none }
def CountStepsWrongFalsely : Prop := countStepsRow.holds Try.pinned (OpenSpec.ofChange countStepsWrong)

/-- 'roundelaylaw14.PinWhole': WHATEVER THE INPUT: true; the input reads as it did. -/
def pinWholeSpec : ChangeSpec := { name := "pinWhole", fn := fun _ => fun
  | [d1, d2, d3] => { results := [.lit (.bool true)], args := [d1, d2, d3] }
  | _ => none }
def pinWholeRow : OpenClaim := { program := "ytlepjmnhekeofaa", sum := "60cc2d076aa7028131ed09f1afad9592a3ad5242fa3732f87c80b31b40648ac8", func := "roundelay/roundelaylaw14.PinWhole", spec := "pinWhole", unfollowed := true, recurses := true, apart := false }
def PinWholeSaid : Prop := pinWholeRow.holds Try.pinned (OpenSpec.ofChange pinWholeSpec)

/-- ITS FALSE NEIGHBOUR: 'it returns false'. Refute it at one input. -/
def pinWholeWrong : ChangeSpec := { name := "pinWhole", fn := fun _ => fun
  | [d1, d2, d3] => { results := [.lit (.bool false)], args := [d1, d2, d3] }
  | _ => none }
def PinWholeWrongFalsely : Prop := pinWholeRow.holds Try.pinned (OpenSpec.ofChange pinWholeWrong)

/-- 'roundelaylaw14.PinSteps': WHATEVER THE INPUT: true; the input reads as it did. -/
def pinStepsSpec : ChangeSpec := { name := "pinSteps", fn := fun _ => fun
  | [d1, d2, d3] => { results := [.lit (.bool true)], args := [d1, d2, d3] }
  | _ => none }
def pinStepsRow : OpenClaim := { program := "ytlepjmnhekeofaa", sum := "60cc2d076aa7028131ed09f1afad9592a3ad5242fa3732f87c80b31b40648ac8", func := "roundelay/roundelaylaw14.PinSteps", spec := "pinSteps", unfollowed := true, recurses := true, apart := false }
def PinStepsSaid : Prop := pinStepsRow.holds Try.pinned (OpenSpec.ofChange pinStepsSpec)

/-- ITS FALSE NEIGHBOUR: 'it returns false'. Refute it at one input. -/
def pinStepsWrong : ChangeSpec := { name := "pinSteps", fn := fun _ => fun
  | [d1, d2, d3] => { results := [.lit (.bool false)], args := [d1, d2, d3] }
  | _ => none }
def PinStepsWrongFalsely : Prop := pinStepsRow.holds Try.pinned (OpenSpec.ofChange pinStepsWrong)

/-- 'roundelaylaw14.PinOrder': WHATEVER THE INPUT: true; the input reads as it did. -/
def pinOrderSpec : ChangeSpec := { name := "pinOrder", fn := fun _ => fun
  | [d1, d2, d3] => { results := [.lit (.bool true)], args := [d1, d2, d3] }
  | _ => none }
def pinOrderRow : OpenClaim := { program := "ytlepjmnhekeofaa", sum := "60cc2d076aa7028131ed09f1afad9592a3ad5242fa3732f87c80b31b40648ac8", func := "roundelay/roundelaylaw14.PinOrder", spec := "pinOrder", unfollowed := true, recurses := true, apart := false }
def PinOrderSaid : Prop := pinOrderRow.holds Try.pinned (OpenSpec.ofChange pinOrderSpec)

/-- ITS FALSE NEIGHBOUR: 'it returns false'. Refute it at one input. -/
def pinOrderWrong : ChangeSpec := { name := "pinOrder", fn := fun _ => fun
  | [d1, d2, d3] => { results := [.lit (.bool false)], args := [d1, d2, d3] }
  | _ => none }
def PinOrderWrongFalsely : Prop := pinOrderRow.holds Try.pinned (OpenSpec.ofChange pinOrderWrong)

/-- 'roundelaylaw15.SnapWhole': WHATEVER THE INPUT: true; the input reads as it did. -/
def snapWholeSpec : ChangeSpec := { name := "snapWhole", fn := fun _ => fun
  | [d1, d2, d3] => { results := [.lit (.bool true)], args := [d1, d2, d3] }
  | _ => none }
def snapWholeRow : OpenClaim := { program := "ytlepjmnhekeofaa", sum := "60cc2d076aa7028131ed09f1afad9592a3ad5242fa3732f87c80b31b40648ac8", func := "roundelay/roundelaylaw15.SnapWhole", spec := "snapWhole", unfollowed := true, recurses := true, apart := false }
def SnapWholeSaid : Prop := snapWholeRow.holds Try.pinned (OpenSpec.ofChange snapWholeSpec)

/-- ITS FALSE NEIGHBOUR: 'it returns false'. Refute it at one input. -/
def snapWholeWrong : ChangeSpec := { name := "snapWhole", fn := fun _ => fun
  | [d1, d2, d3] => { results := [.lit (.bool false)], args := [d1, d2, d3] }
  | _ => none }
def SnapWholeWrongFalsely : Prop := snapWholeRow.holds Try.pinned (OpenSpec.ofChange snapWholeWrong)

/-- 'roundelaylaw15.SnapSteps': WHATEVER THE INPUT: true; the input reads as it did. -/
def snapStepsSpec : ChangeSpec := { name := "snapSteps", fn := fun _ => fun
  | [d1, d2, d3] => { results := [.lit (.bool true)], args := [d1, d2, d3] }
  | _ => none }
def snapStepsRow : OpenClaim := { program := "ytlepjmnhekeofaa", sum := "60cc2d076aa7028131ed09f1afad9592a3ad5242fa3732f87c80b31b40648ac8", func := "roundelay/roundelaylaw15.SnapSteps", spec := "snapSteps", unfollowed := true, recurses := true, apart := false }
def SnapStepsSaid : Prop := snapStepsRow.holds Try.pinned (OpenSpec.ofChange snapStepsSpec)

/-- ITS FALSE NEIGHBOUR: 'it returns false'. Refute it at one input. -/
def snapStepsWrong : ChangeSpec := { name := "snapSteps", fn := fun _ => fun
  | [d1, d2, d3] => { results := [.lit (.bool false)], args := [d1, d2, d3] }
  | _ => none }
def SnapStepsWrongFalsely : Prop := snapStepsRow.holds Try.pinned (OpenSpec.ofChange snapStepsWrong)

/-- 'roundelaylaw15.SnapRows': WHATEVER THE INPUT: true; the input reads as it did. -/
def snapRowsSpec : ChangeSpec := { name := "snapRows", fn := fun _ => fun
  | [d1, d2, d3] => { results := [.lit (.bool true)], args := [d1, d2, d3] }
  | _ => none }
def snapRowsRow : OpenClaim := { program := "ytlepjmnhekeofaa", sum := "60cc2d076aa7028131ed09f1afad9592a3ad5242fa3732f87c80b31b40648ac8", func := "roundelay/roundelaylaw15.SnapRows", spec := "snapRows", unfollowed := true, recurses := true, apart := false }
def SnapRowsSaid : Prop := snapRowsRow.holds Try.pinned (OpenSpec.ofChange snapRowsSpec)

/-- ITS FALSE NEIGHBOUR: 'it returns false'. Refute it at one input. -/
def snapRowsWrong : ChangeSpec := { name := "snapRows", fn := fun _ => fun
  | [d1, d2, d3] => { results := [.lit (.bool false)], args := [d1, d2, d3] }
  | _ => none }
def SnapRowsWrongFalsely : Prop := snapRowsRow.holds Try.pinned (OpenSpec.ofChange snapRowsWrong)

/-- 'roundelaylaw16.MultiWhole': WHATEVER THE INPUT: true; the input reads as it did. -/
def multiWholeSpec : ChangeSpec := { name := "multiWhole", fn := fun _ => fun
  | [d1, d2, d3] => { results := [.lit (.bool true)], args := [d1, d2, d3] }
  | _ => none }
def multiWholeRow : OpenClaim := { program := "ytlepjmnhekeofaa", sum := "60cc2d076aa7028131ed09f1afad9592a3ad5242fa3732f87c80b31b40648ac8", func := "roundelay/roundelaylaw16.MultiWhole", spec := "multiWhole", unfollowed := true, recurses := true, apart := false }
def MultiWholeSaid : Prop := multiWholeRow.holds Try.pinned (OpenSpec.ofChange multiWholeSpec)

/-- ITS FALSE NEIGHBOUR: 'it returns false'. Refute it at one input. -/
def multiWholeWrong : ChangeSpec := { name := "multiWhole", fn := fun _ => fun
  | [d1, d2, d3] => { results := [.lit (.bool false)], args := [d1, d2, d3] }
  | _ => none }
def MultiWholeWrongFalsely : Prop := multiWholeRow.holds Try.pinned (OpenSpec.ofChange multiWholeWrong)

/-- 'roundelaylaw16.MultiSteps': WHATEVER THE INPUT: true; the input reads as it did. -/
def multiStepsSpec : ChangeSpec := { name := "multiSteps", fn := fun _ => fun
  | [d1, d2, d3] => { results := [.lit (.bool true)], args := [d1, d2, d3] }
  | _ => none }
def multiStepsRow : OpenClaim := { program := "ytlepjmnhekeofaa", sum := "60cc2d076aa7028131ed09f1afad9592a3ad5242fa3732f87c80b31b40648ac8", func := "roundelay/roundelaylaw16.MultiSteps", spec := "multiSteps", unfollowed := true, recurses := true, apart := false }
def MultiStepsSaid : Prop := multiStepsRow.holds Try.pinned (OpenSpec.ofChange multiStepsSpec)

/-- ITS FALSE NEIGHBOUR: 'it returns false'. Refute it at one input. -/
def multiStepsWrong : ChangeSpec := { name := "multiSteps", fn := fun _ => fun
  | [d1, d2, d3] => { results := [.lit (.bool false)], args := [d1, d2, d3] }
  | _ => none }
def MultiStepsWrongFalsely : Prop := multiStepsRow.holds Try.pinned (OpenSpec.ofChange multiStepsWrong)

/- THE SECOND FORM. 'bulk': how many values and letters a reading holds, each counted each time it is reached (what is shared counts as often as it is met; a slice's spare places count too). A statement '..UptoSaid' is the law's where the arguments, and the package variables that the reading takes, are together of bulk at most 1048576: NARROWER than '..Said'. Prove '..Said' where nothing that the law and all that it calls make is longer than what came in: it says more and counts as full. Else prove '..UptoSaid'. A law counts once. -/
mutual
def uptoBulk {H : Type} : DataW H → Nat
  | .lit (.string bytes) => bytes.length + 1
  | .lit _ => 1
  | .nil => 1
  | .ptr d => uptoBulk d + 1
  | .slice elems spare => uptoBulkAll elems + uptoBulkAll spare + 1
  | .agg parts => uptoBulkAll parts + 1
  | .iface _ d => uptoBulk d + 1
  | .map entries => uptoBulkEntries entries + 1
  | .held _ => 1
def uptoBulkAll {H : Type} : List (DataW H) → Nat
  | [] => 0
  | d :: r => uptoBulk d + uptoBulkAll r
def uptoBulkEntries {H : Type} : List (Lit × DataW H) → Nat
  | [] => 0
  | x :: r => uptoBulkEntry x + uptoBulkEntries r
def uptoBulkEntry {H : Type} : Lit × DataW H → Nat
  | (.string bytes, d) => bytes.length + uptoBulk d + 1
  | (_, d) => uptoBulk d + 1
 end
def uptoSmall : (H : Type) → List (DataW H) → Bool := fun _ ds => decide (uptoBulkAll ds ≤ 1048576)
def OpenSpec.upto (s : _root_.Go.ChangeSpec) : _root_.Go.OpenSpec := { _root_.Go.OpenSpec.ofChange s with cond := some uptoSmall }

/-- 'roundelaylaw11.CountReads', WHERE WHAT IT READS IS OF BULK AT MOST 1048576: true; the input reads as it did. -/
def countReadsUptoRow : OpenClaim := { program := "ytlepjmnhekeofaa", sum := "60cc2d076aa7028131ed09f1afad9592a3ad5242fa3732f87c80b31b40648ac8", func := "roundelay/roundelaylaw11.CountReads", spec := "countReads", unfollowed := true, recurses := true, apart := false, narrowed := true }
def CountReadsUptoSaid : Prop := countReadsUptoRow.holds Try.pinned (OpenSpec.upto countReadsSpec)

/-- 'roundelaylaw11.CountSteps', WHERE WHAT IT READS IS OF BULK AT MOST 1048576: true; the input reads as it did. -/
def countStepsUptoRow : OpenClaim := { program := "ytlepjmnhekeofaa", sum := "60cc2d076aa7028131ed09f1afad9592a3ad5242fa3732f87c80b31b40648ac8", func := "roundelay/roundelaylaw11.CountSteps", spec := "countSteps", unfollowed := true, recurses := true, apart := false, narrowed := true }
def CountStepsUptoSaid : Prop := countStepsUptoRow.holds Try.pinned (OpenSpec.upto countStepsSpec)

/-- 'roundelaylaw14.PinWhole', WHERE WHAT IT READS IS OF BULK AT MOST 1048576: true; the input reads as it did. -/
def pinWholeUptoRow : OpenClaim := { program := "ytlepjmnhekeofaa", sum := "60cc2d076aa7028131ed09f1afad9592a3ad5242fa3732f87c80b31b40648ac8", func := "roundelay/roundelaylaw14.PinWhole", spec := "pinWhole", unfollowed := true, recurses := true, apart := false, narrowed := true }
def PinWholeUptoSaid : Prop := pinWholeUptoRow.holds Try.pinned (OpenSpec.upto pinWholeSpec)

/-- 'roundelaylaw14.PinSteps', WHERE WHAT IT READS IS OF BULK AT MOST 1048576: true; the input reads as it did. -/
def pinStepsUptoRow : OpenClaim := { program := "ytlepjmnhekeofaa", sum := "60cc2d076aa7028131ed09f1afad9592a3ad5242fa3732f87c80b31b40648ac8", func := "roundelay/roundelaylaw14.PinSteps", spec := "pinSteps", unfollowed := true, recurses := true, apart := false, narrowed := true }
def PinStepsUptoSaid : Prop := pinStepsUptoRow.holds Try.pinned (OpenSpec.upto pinStepsSpec)

/-- 'roundelaylaw14.PinOrder', WHERE WHAT IT READS IS OF BULK AT MOST 1048576: true; the input reads as it did. -/
def pinOrderUptoRow : OpenClaim := { program := "ytlepjmnhekeofaa", sum := "60cc2d076aa7028131ed09f1afad9592a3ad5242fa3732f87c80b31b40648ac8", func := "roundelay/roundelaylaw14.PinOrder", spec := "pinOrder", unfollowed := true, recurses := true, apart := false, narrowed := true }
def PinOrderUptoSaid : Prop := pinOrderUptoRow.holds Try.pinned (OpenSpec.upto pinOrderSpec)

/-- 'roundelaylaw15.SnapWhole', WHERE WHAT IT READS IS OF BULK AT MOST 1048576: true; the input reads as it did. -/
def snapWholeUptoRow : OpenClaim := { program := "ytlepjmnhekeofaa", sum := "60cc2d076aa7028131ed09f1afad9592a3ad5242fa3732f87c80b31b40648ac8", func := "roundelay/roundelaylaw15.SnapWhole", spec := "snapWhole", unfollowed := true, recurses := true, apart := false, narrowed := true }
def SnapWholeUptoSaid : Prop := snapWholeUptoRow.holds Try.pinned (OpenSpec.upto snapWholeSpec)

/-- 'roundelaylaw15.SnapSteps', WHERE WHAT IT READS IS OF BULK AT MOST 1048576: true; the input reads as it did. -/
def snapStepsUptoRow : OpenClaim := { program := "ytlepjmnhekeofaa", sum := "60cc2d076aa7028131ed09f1afad9592a3ad5242fa3732f87c80b31b40648ac8", func := "roundelay/roundelaylaw15.SnapSteps", spec := "snapSteps", unfollowed := true, recurses := true, apart := false, narrowed := true }
def SnapStepsUptoSaid : Prop := snapStepsUptoRow.holds Try.pinned (OpenSpec.upto snapStepsSpec)

/-- 'roundelaylaw15.SnapRows', WHERE WHAT IT READS IS OF BULK AT MOST 1048576: true; the input reads as it did. -/
def snapRowsUptoRow : OpenClaim := { program := "ytlepjmnhekeofaa", sum := "60cc2d076aa7028131ed09f1afad9592a3ad5242fa3732f87c80b31b40648ac8", func := "roundelay/roundelaylaw15.SnapRows", spec := "snapRows", unfollowed := true, recurses := true, apart := false, narrowed := true }
def SnapRowsUptoSaid : Prop := snapRowsUptoRow.holds Try.pinned (OpenSpec.upto snapRowsSpec)

/-- 'roundelaylaw16.MultiWhole', WHERE WHAT IT READS IS OF BULK AT MOST 1048576: true; the input reads as it did. -/
def multiWholeUptoRow : OpenClaim := { program := "ytlepjmnhekeofaa", sum := "60cc2d076aa7028131ed09f1afad9592a3ad5242fa3732f87c80b31b40648ac8", func := "roundelay/roundelaylaw16.MultiWhole", spec := "multiWhole", unfollowed := true, recurses := true, apart := false, narrowed := true }
def MultiWholeUptoSaid : Prop := multiWholeUptoRow.holds Try.pinned (OpenSpec.upto multiWholeSpec)

/-- 'roundelaylaw16.MultiSteps', WHERE WHAT IT READS IS OF BULK AT MOST 1048576: true; the input reads as it did. -/
def multiStepsUptoRow : OpenClaim := { program := "ytlepjmnhekeofaa", sum := "60cc2d076aa7028131ed09f1afad9592a3ad5242fa3732f87c80b31b40648ac8", func := "roundelay/roundelaylaw16.MultiSteps", spec := "multiSteps", unfollowed := true, recurses := true, apart := false, narrowed := true }
def MultiStepsUptoSaid : Prop := multiStepsUptoRow.holds Try.pinned (OpenSpec.upto multiStepsSpec)

end Rows
end Go.Proofs.Ytlepjmnhekeofaa
