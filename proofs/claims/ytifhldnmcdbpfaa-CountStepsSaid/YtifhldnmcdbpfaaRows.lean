/-
  No cell of these rows narrows 'for every input' (looked for: loops, veiled, ifaces, maps, wideKeys, modest, calm, conditions, laid).
  DERIVED. THE GIVEN ROWS OF THIS SEAT. 7 by the template 'for every input the law returns true; each argument reads behind the call as it read before'; 0 by the template 'total and deterministic' (their statements: YtifhldnmcdbpfaaTotals.lean).
  GIVEN WITH THE SEED: the statements are not yours to turn. If you find one false, say at which input.
  Laid BY PROGRAM, IN A SANDBOX (cutbox-rows.mjs): the forced cells as the released guide's own fill.sh prints them over the translation 5b668aa824e1eac4… (all of the seat's roots in one cut). By AI agents, Wed Nov 11 2026. No macro, syntax, notation, axiom, sorry.
-/
import Derived.Test.YtifhldnmcdbpfaaChecked
import GoSem.Claim
import GoSem.ClaimJoined
import GoSem.ClaimMapViews
import Derived.JoinedTies
import Derived.KernelRfl
namespace Go.Proofs.Ytifhldnmcdbpfaa
/- THE CELL 'sum', in the pinned program and in every row, IS THE sha256 OF THE DUMP (.gsa) THAT YtifhldnmcdbpfaaProg.lean LOADS. Nothing in Lean hashes anything: it is a label: what it is worth is what the hold of that sum in a sandbox is worth. -/
noncomputable def Try.pinned : Pinned := { name := "ytifhldnmcdbpfaa", sum := "5b668aa824e1eac4e2257a6ccc8814cac7e461279fc349057286a5090cfe57b0", checked := Try.checked }
namespace Rows
def none {H : Type} : Left H := { results := [], args := [] }

/-- 'roundelaylaw11.CountReads': WHATEVER THE INPUT: true; the input reads as it did. -/
def countReadsSpec : ChangeSpec := { name := "countReads", fn := fun _ => fun
  | [d1, d2, d3] => { results := [.lit (.bool true)], args := [d1, d2, d3] }
  | _ => none }
def countReadsRow : OpenClaim := { program := "ytifhldnmcdbpfaa", sum := "5b668aa824e1eac4e2257a6ccc8814cac7e461279fc349057286a5090cfe57b0", func := "roundelay/roundelaylaw11.CountReads", spec := "countReads", unfollowed := true, recurses := true, apart := false }
def CountReadsSaid : Prop := countReadsRow.holds Try.pinned (OpenSpec.ofChange countReadsSpec)

/-- ITS FALSE NEIGHBOUR: 'it returns false'. Refute it at one input. -/
def countReadsWrong : ChangeSpec := { name := "countReads", fn := fun _ => fun
  | [d1, d2, d3] => { results := [.lit (.bool false)], args := [d1, d2, d3] }
  | _ => none }
def CountReadsWrongFalsely : Prop := countReadsRow.holds Try.pinned (OpenSpec.ofChange countReadsWrong)

/-- 'roundelaylaw11.CountSteps': WHATEVER THE INPUT: true; the input reads as it did. -/
def countStepsSpec : ChangeSpec := { name := "countSteps", fn := fun _ => fun
  | [d1, d2, d3] => { results := [.lit (.bool true)], args := [d1, d2, d3] }
  | _ => none }
def countStepsRow : OpenClaim := { program := "ytifhldnmcdbpfaa", sum := "5b668aa824e1eac4e2257a6ccc8814cac7e461279fc349057286a5090cfe57b0", func := "roundelay/roundelaylaw11.CountSteps", spec := "countSteps", unfollowed := true, recurses := true, apart := false }
def CountStepsSaid : Prop := countStepsRow.holds Try.pinned (OpenSpec.ofChange countStepsSpec)

/-- ITS FALSE NEIGHBOUR: 'it returns false'. Refute it at one input. -/
def countStepsWrong : ChangeSpec := { name := "countSteps", fn := fun _ => fun
  | [d1, d2, d3] => { results := [.lit (.bool false)], args := [d1, d2, d3] }
  | _ => none }
def CountStepsWrongFalsely : Prop := countStepsRow.holds Try.pinned (OpenSpec.ofChange countStepsWrong)

/-- 'roundelaylaw16.MultiWhole': WHATEVER THE INPUT: true; the input reads as it did. -/
def multiWholeSpec : ChangeSpec := { name := "multiWhole", fn := fun _ => fun
  | [d1, d2, d3] => { results := [.lit (.bool true)], args := [d1, d2, d3] }
  | _ => none }
def multiWholeRow : OpenClaim := { program := "ytifhldnmcdbpfaa", sum := "5b668aa824e1eac4e2257a6ccc8814cac7e461279fc349057286a5090cfe57b0", func := "roundelay/roundelaylaw16.MultiWhole", spec := "multiWhole", unfollowed := true, recurses := true, apart := false }
def MultiWholeSaid : Prop := multiWholeRow.holds Try.pinned (OpenSpec.ofChange multiWholeSpec)

/-- ITS FALSE NEIGHBOUR: 'it returns false'. Refute it at one input. -/
def multiWholeWrong : ChangeSpec := { name := "multiWhole", fn := fun _ => fun
  | [d1, d2, d3] => { results := [.lit (.bool false)], args := [d1, d2, d3] }
  | _ => none }
def MultiWholeWrongFalsely : Prop := multiWholeRow.holds Try.pinned (OpenSpec.ofChange multiWholeWrong)

/-- 'roundelaylaw16.MultiSteps': WHATEVER THE INPUT: true; the input reads as it did. -/
def multiStepsSpec : ChangeSpec := { name := "multiSteps", fn := fun _ => fun
  | [d1, d2, d3] => { results := [.lit (.bool true)], args := [d1, d2, d3] }
  | _ => none }
def multiStepsRow : OpenClaim := { program := "ytifhldnmcdbpfaa", sum := "5b668aa824e1eac4e2257a6ccc8814cac7e461279fc349057286a5090cfe57b0", func := "roundelay/roundelaylaw16.MultiSteps", spec := "multiSteps", unfollowed := true, recurses := true, apart := false }
def MultiStepsSaid : Prop := multiStepsRow.holds Try.pinned (OpenSpec.ofChange multiStepsSpec)

/-- ITS FALSE NEIGHBOUR: 'it returns false'. Refute it at one input. -/
def multiStepsWrong : ChangeSpec := { name := "multiSteps", fn := fun _ => fun
  | [d1, d2, d3] => { results := [.lit (.bool false)], args := [d1, d2, d3] }
  | _ => none }
def MultiStepsWrongFalsely : Prop := multiStepsRow.holds Try.pinned (OpenSpec.ofChange multiStepsWrong)

/-- 'roundelaylaw18.UnivSteps': WHATEVER THE INPUT: true; the input reads as it did. -/
def univStepsSpec : ChangeSpec := { name := "univSteps", fn := fun _ => fun
  | [d1, d2, d3] => { results := [.lit (.bool true)], args := [d1, d2, d3] }
  | _ => none }
def univStepsRow : OpenClaim := { program := "ytifhldnmcdbpfaa", sum := "5b668aa824e1eac4e2257a6ccc8814cac7e461279fc349057286a5090cfe57b0", func := "roundelay/roundelaylaw18.UnivSteps", spec := "univSteps", unfollowed := true, recurses := true, apart := false }
def UnivStepsSaid : Prop := univStepsRow.holds Try.pinned (OpenSpec.ofChange univStepsSpec)

/-- ITS FALSE NEIGHBOUR: 'it returns false'. Refute it at one input. -/
def univStepsWrong : ChangeSpec := { name := "univSteps", fn := fun _ => fun
  | [d1, d2, d3] => { results := [.lit (.bool false)], args := [d1, d2, d3] }
  | _ => none }
def UnivStepsWrongFalsely : Prop := univStepsRow.holds Try.pinned (OpenSpec.ofChange univStepsWrong)

/-- 'roundelaylaw18.UnivTurns': WHATEVER THE INPUT: true; the input reads as it did. -/
def univTurnsSpec : ChangeSpec := { name := "univTurns", fn := fun _ => fun
  | [d1, d2, d3] => { results := [.lit (.bool true)], args := [d1, d2, d3] }
  | _ => none }
def univTurnsRow : OpenClaim := { program := "ytifhldnmcdbpfaa", sum := "5b668aa824e1eac4e2257a6ccc8814cac7e461279fc349057286a5090cfe57b0", func := "roundelay/roundelaylaw18.UnivTurns", spec := "univTurns", unfollowed := true, recurses := true, apart := false }
def UnivTurnsSaid : Prop := univTurnsRow.holds Try.pinned (OpenSpec.ofChange univTurnsSpec)

/-- ITS FALSE NEIGHBOUR: 'it returns false'. Refute it at one input. -/
def univTurnsWrong : ChangeSpec := { name := "univTurns", fn := fun _ => fun
  | [d1, d2, d3] => { results := [.lit (.bool false)], args := [d1, d2, d3] }
  | _ => none }
def UnivTurnsWrongFalsely : Prop := univTurnsRow.holds Try.pinned (OpenSpec.ofChange univTurnsWrong)

/-- 'roundelaylaw18.UnivEntries': WHATEVER THE INPUT: true; the input reads as it did. -/
def univEntriesSpec : ChangeSpec := { name := "univEntries", fn := fun _ => fun
  | [d1, d2, d3] => { results := [.lit (.bool true)], args := [d1, d2, d3] }
  | _ => none }
def univEntriesRow : OpenClaim := { program := "ytifhldnmcdbpfaa", sum := "5b668aa824e1eac4e2257a6ccc8814cac7e461279fc349057286a5090cfe57b0", func := "roundelay/roundelaylaw18.UnivEntries", spec := "univEntries", unfollowed := true, recurses := true, apart := false }
def UnivEntriesSaid : Prop := univEntriesRow.holds Try.pinned (OpenSpec.ofChange univEntriesSpec)

/-- ITS FALSE NEIGHBOUR: 'it returns false'. Refute it at one input. -/
def univEntriesWrong : ChangeSpec := { name := "univEntries", fn := fun _ => fun
  | [d1, d2, d3] => { results := [.lit (.bool false)], args := [d1, d2, d3] }
  | _ => none }
def UnivEntriesWrongFalsely : Prop := univEntriesRow.holds Try.pinned (OpenSpec.ofChange univEntriesWrong)

/- THE SECOND FORM. 'bulk': how many values and letters a reading holds, each counted each time it is reached (what is shared counts as often as it is met; a slice's spare places count too). A statement '..UptoSaid' is the law's where the arguments, and the package variables that the reading takes, are together of bulk at most 1048576: NARROWER than '..Said'. Prove '..Said' where nothing that the law and all that it calls make is longer than what came in: it says more and counts as full. Else prove '..UptoSaid'. A law counts once. -/
mutual
def uptoBulk {H : Type} : DataW H → Nat
  | .lit (.string bytes) => bytes.length + 1
  | .lit _ => 1
  | .nil => 1
  | .ptr d => uptoBulk d + 1
  | .slice elems spare => uptoBulkAll elems + uptoBulkAll spare + 1
  | .agg parts => uptoBulkAll parts + 1
  | .iface _ d => uptoBulk d + 1
  | .map entries => uptoBulkEntries entries + 1
  | .held _ => 1
def uptoBulkAll {H : Type} : List (DataW H) → Nat
  | [] => 0
  | d :: r => uptoBulk d + uptoBulkAll r
def uptoBulkEntries {H : Type} : List (Lit × DataW H) → Nat
  | [] => 0
  | x :: r => uptoBulkEntry x + uptoBulkEntries r
def uptoBulkEntry {H : Type} : Lit × DataW H → Nat
  | (.string bytes, d) => bytes.length + uptoBulk d + 1
  | (_, d) => uptoBulk d + 1
 end
def uptoSmall : (H : Type) → List (DataW H) → Bool := fun _ ds => decide (uptoBulkAll ds ≤ 1048576)
def OpenSpec.upto (s : _root_.Go.ChangeSpec) : _root_.Go.OpenSpec := { _root_.Go.OpenSpec.ofChange s with cond := some uptoSmall }

/-- 'roundelaylaw11.CountReads', WHERE WHAT IT READS IS OF BULK AT MOST 1048576: true; the input reads as it did. -/
def countReadsUptoRow : OpenClaim := { program := "ytifhldnmcdbpfaa", sum := "5b668aa824e1eac4e2257a6ccc8814cac7e461279fc349057286a5090cfe57b0", func := "roundelay/roundelaylaw11.CountReads", spec := "countReads", unfollowed := true, recurses := true, apart := false, narrowed := true }
def CountReadsUptoSaid : Prop := countReadsUptoRow.holds Try.pinned (OpenSpec.upto countReadsSpec)

/-- 'roundelaylaw11.CountSteps', WHERE WHAT IT READS IS OF BULK AT MOST 1048576: true; the input reads as it did. -/
def countStepsUptoRow : OpenClaim := { program := "ytifhldnmcdbpfaa", sum := "5b668aa824e1eac4e2257a6ccc8814cac7e461279fc349057286a5090cfe57b0", func := "roundelay/roundelaylaw11.CountSteps", spec := "countSteps", unfollowed := true, recurses := true, apart := false, narrowed := true }
def CountStepsUptoSaid : Prop := countStepsUptoRow.holds Try.pinned (OpenSpec.upto countStepsSpec)

/-- 'roundelaylaw16.MultiWhole', WHERE WHAT IT READS IS OF BULK AT MOST 1048576: true; the input reads as it did. -/
def multiWholeUptoRow : OpenClaim := { program := "ytifhldnmcdbpfaa", sum := "5b668aa824e1eac4e2257a6ccc8814cac7e461279fc349057286a5090cfe57b0", func := "roundelay/roundelaylaw16.MultiWhole", spec := "multiWhole", unfollowed := true, recurses := true, apart := false, narrowed := true }
def MultiWholeUptoSaid : Prop := multiWholeUptoRow.holds Try.pinned (OpenSpec.upto multiWholeSpec)

/-- 'roundelaylaw16.MultiSteps', WHERE WHAT IT READS IS OF BULK AT MOST 1048576: true; the input reads as it did. -/
def multiStepsUptoRow : OpenClaim := { program := "ytifhldnmcdbpfaa", sum := "5b668aa824e1eac4e2257a6ccc8814cac7e461279fc349057286a5090cfe57b0", func := "roundelay/roundelaylaw16.MultiSteps", spec := "multiSteps", unfollowed := true, recurses := true, apart := false, narrowed := true }
def MultiStepsUptoSaid : Prop := multiStepsUptoRow.holds Try.pinned (OpenSpec.upto multiStepsSpec)

/-- 'roundelaylaw18.UnivSteps', WHERE WHAT IT READS IS OF BULK AT MOST 1048576: true; the input reads as it did. -/
def univStepsUptoRow : OpenClaim := { program := "ytifhldnmcdbpfaa", sum := "5b668aa824e1eac4e2257a6ccc8814cac7e461279fc349057286a5090cfe57b0", func := "roundelay/roundelaylaw18.UnivSteps", spec := "univSteps", unfollowed := true, recurses := true, apart := false, narrowed := true }
def UnivStepsUptoSaid : Prop := univStepsUptoRow.holds Try.pinned (OpenSpec.upto univStepsSpec)

/-- 'roundelaylaw18.UnivTurns', WHERE WHAT IT READS IS OF BULK AT MOST 1048576: true; the input reads as it did. -/
def univTurnsUptoRow : OpenClaim := { program := "ytifhldnmcdbpfaa", sum := "5b668aa824e1eac4e2257a6ccc8814cac7e461279fc349057286a5090cfe57b0", func := "roundelay/roundelaylaw18.UnivTurns", spec := "univTurns", unfollowed := true, recurses := true, apart := false, narrowed := true }
def UnivTurnsUptoSaid : Prop := univTurnsUptoRow.holds Try.pinned (OpenSpec.upto univTurnsSpec)

/-- 'roundelaylaw18.UnivEntries', WHERE WHAT IT READS IS OF BULK AT MOST 1048576: true; the input reads as it did. -/
def univEntriesUptoRow : OpenClaim := { program := "ytifhldnmcdbpfaa", sum := "5b668aa824e1eac4e2257a6ccc8814cac7e461279fc349057286a5090cfe57b0", func := "roundelay/roundelaylaw18.UnivEntries", spec := "univEntries", unfollowed := true, recurses := true, apart := false, narrowed := true }
def UnivEntriesUptoSaid : Prop := univEntriesUptoRow.holds Try.pinned (OpenSpec.upto univEntriesSpec)

end Rows
end Go.Proofs.Ytifhldnmcdbpfaa
