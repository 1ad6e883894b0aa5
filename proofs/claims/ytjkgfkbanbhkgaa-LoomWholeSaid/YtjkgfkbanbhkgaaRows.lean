/-
  No cell of these rows narrows 'for every input' (looked for: loops, veiled, ifaces, maps, wideKeys, modest, calm, conditions, laid).
  DERIVED. THE GIVEN ROWS OF THIS SEAT. 12 by the template 'for every input the law returns true; each argument reads behind the call as it read before'; 0 by the template 'total and deterministic' (their statements: YtjkgfkbanbhkgaaTotals.lean).
  GIVEN WITH THE SEED: the statements are not yours to turn. If you find one false, say at which input.
  Laid BY PROGRAM, IN A SANDBOX (cutbox-rows.mjs): the forced cells as the released guide's own fill.sh prints them over the translation c56b9a6e0058a006… (all of the seat's roots in one cut). By AI agents, Wed Nov 11 2026. No macro, syntax, notation, axiom, sorry.
-/
import Derived.Test.YtjkgfkbanbhkgaaChecked
import GoSem.Claim
import GoSem.ClaimJoined
import GoSem.ClaimMapViews
import Derived.JoinedTies
import Derived.KernelRfl
namespace Go.Proofs.Ytjkgfkbanbhkgaa
/- THE CELL 'sum', in the pinned program and in every row, IS THE sha256 OF THE DUMP (.gsa) THAT YtjkgfkbanbhkgaaProg.lean LOADS. Nothing in Lean hashes anything: it is a label: what it is worth is what the hold of that sum in a sandbox is worth. -/
noncomputable def Try.pinned : Pinned := { name := "ytjkgfkbanbhkgaa", sum := "c56b9a6e0058a00652ffc4050635c7851da23b35345f278d9eb3bf17d2d4298c", checked := Try.checked }
namespace Rows
def none {H : Type} : Left H := { results := [], args := [] }

/-- 'roundelaylaw06.LoomWhole': WHATEVER THE INPUT: true; the input reads as it did. -/
def loomWholeSpec : ChangeSpec := { name := "loomWhole", fn := fun _ => fun
  | [d1, d2, d3] => { results := [.lit (.bool true)], args := [d1, d2, d3] }
  | _ => none }
def loomWholeRow : OpenClaim := { program := "ytjkgfkbanbhkgaa", sum := "c56b9a6e0058a00652ffc4050635c7851da23b35345f278d9eb3bf17d2d4298c", func := "roundelay/roundelaylaw06.LoomWhole", spec := "loomWhole", unfollowed := true, recurses := true, apart := false }
def LoomWholeSaid : Prop := loomWholeRow.holds Try.pinned (OpenSpec.ofChange loomWholeSpec)

/-- ITS FALSE NEIGHBOUR: 'it returns false'. Refute it at one input. -/
def loomWholeWrong : ChangeSpec := { name := "loomWhole", fn := fun _ => fun
  | [d1, d2, d3] => { results := [.lit (.bool false)], args := [d1, d2, d3] }
  | _ => none }
def LoomWholeWrongFalsely : Prop := loomWholeRow.holds Try.pinned (OpenSpec.ofChange loomWholeWrong)

/-- 'roundelaylaw07.ConsWhole': WHATEVER THE INPUT: true; the input reads as it did. -/
def consWholeSpec : ChangeSpec := { name := "consWhole", fn := fun _ => fun
  | [d1, d2, d3] => { results := [.lit (.bool true)], args := [d1, d2, d3] }
  | _ => none }
def consWholeRow : OpenClaim := { program := "ytjkgfkbanbhkgaa", sum := "c56b9a6e0058a00652ffc4050635c7851da23b35345f278d9eb3bf17d2d4298c", func := "roundelay/roundelaylaw07.ConsWhole", spec := "consWhole", unfollowed := true, recurses := true, apart := false }
def ConsWholeSaid : Prop := consWholeRow.holds Try.pinned (OpenSpec.ofChange consWholeSpec)

/-- ITS FALSE NEIGHBOUR: 'it returns false'. Refute it at one input. -/
def consWholeWrong : ChangeSpec := { name := "consWhole", fn := fun _ => fun
  | [d1, d2, d3] => { results := [.lit (.bool false)], args := [d1, d2, d3] }
  | _ => none }
def ConsWholeWrongFalsely : Prop := consWholeRow.holds Try.pinned (OpenSpec.ofChange consWholeWrong)

/-- 'roundelaylaw08.TallyReads': WHATEVER THE INPUT: true; the input reads as it did. -/
def tallyReadsSpec : ChangeSpec := { name := "tallyReads", fn := fun _ => fun
  | [d1, d2, d3] => { results := [.lit (.bool true)], args := [d1, d2, d3] }
  | _ => none }
def tallyReadsRow : OpenClaim := { program := "ytjkgfkbanbhkgaa", sum := "c56b9a6e0058a00652ffc4050635c7851da23b35345f278d9eb3bf17d2d4298c", func := "roundelay/roundelaylaw08.TallyReads", spec := "tallyReads", unfollowed := true, recurses := true, apart := false }
def TallyReadsSaid : Prop := tallyReadsRow.holds Try.pinned (OpenSpec.ofChange tallyReadsSpec)

/-- ITS FALSE NEIGHBOUR: 'it returns false'. Refute it at one input. -/
def tallyReadsWrong : ChangeSpec := { name := "tallyReads", fn := fun _ => fun
  | [d1, d2, d3] => { results := [.lit (.bool false)], args := [d1, d2, d3] }
  | _ => none }
def TallyReadsWrongFalsely : Prop := tallyReadsRow.holds Try.pinned (OpenSpec.ofChange tallyReadsWrong)

/-- 'roundelaylaw09.AdderTickets': WHATEVER THE INPUT: true; the input reads as it did. -/
def adderTicketsSpec : ChangeSpec := { name := "adderTickets", fn := fun _ => fun
  | [d1, d2, d3] => { results := [.lit (.bool true)], args := [d1, d2, d3] }
  | _ => none }
def adderTicketsRow : OpenClaim := { program := "ytjkgfkbanbhkgaa", sum := "c56b9a6e0058a00652ffc4050635c7851da23b35345f278d9eb3bf17d2d4298c", func := "roundelay/roundelaylaw09.AdderTickets", spec := "adderTickets", unfollowed := true, recurses := true, apart := false }
def AdderTicketsSaid : Prop := adderTicketsRow.holds Try.pinned (OpenSpec.ofChange adderTicketsSpec)

/-- ITS FALSE NEIGHBOUR: 'it returns false'. Refute it at one input. -/
def adderTicketsWrong : ChangeSpec := { name := "adderTickets", fn := fun _ => fun
  | [d1, d2, d3] => { results := [.lit (.bool false)], args := [d1, d2, d3] }
  | _ => none }
def AdderTicketsWrongFalsely : Prop := adderTicketsRow.holds Try.pinned (OpenSpec.ofChange adderTicketsWrong)

/-- 'roundelaylaw10.MaxReads': WHATEVER THE INPUT: true; the input reads as it did. -/
def maxReadsSpec : ChangeSpec := { name := "maxReads", fn := fun _ => fun
  | [d1, d2, d3] => { results := [.lit (.bool true)], args := [d1, d2, d3] }
  | _ => none }
def maxReadsRow : OpenClaim := { program := "ytjkgfkbanbhkgaa", sum := "c56b9a6e0058a00652ffc4050635c7851da23b35345f278d9eb3bf17d2d4298c", func := "roundelay/roundelaylaw10.MaxReads", spec := "maxReads", unfollowed := true, recurses := true, apart := false }
def MaxReadsSaid : Prop := maxReadsRow.holds Try.pinned (OpenSpec.ofChange maxReadsSpec)

/-- ITS FALSE NEIGHBOUR: 'it returns false'. Refute it at one input. -/
def maxReadsWrong : ChangeSpec := { name := "maxReads", fn := fun _ => fun
  | [d1, d2, d3] => { results := [.lit (.bool false)], args := [d1, d2, d3] }
  | _ => none }
def MaxReadsWrongFalsely : Prop := maxReadsRow.holds Try.pinned (OpenSpec.ofChange maxReadsWrong)

/-- 'roundelaylaw10.MaxSteps': WHATEVER THE INPUT: true; the input reads as it did. -/
def maxStepsSpec : ChangeSpec := { name := "maxSteps", fn := fun _ => fun
  | [d1, d2, d3] => { results := [.lit (.bool true)], args := [d1, d2, d3] }
  | _ => none }
def maxStepsRow : OpenClaim := { program := "ytjkgfkbanbhkgaa", sum := "c56b9a6e0058a00652ffc4050635c7851da23b35345f278d9eb3bf17d2d4298c", func := "roundelay/roundelaylaw10.MaxSteps", spec := "maxSteps", unfollowed := true, recurses := true, apart := false }
def MaxStepsSaid : Prop := maxStepsRow.holds Try.pinned (OpenSpec.ofChange maxStepsSpec)

/-- ITS FALSE NEIGHBOUR: 'it returns false'. Refute it at one input. -/
def maxStepsWrong : ChangeSpec := { name := "maxSteps", fn := fun _ => fun
  | [d1, d2, d3] => { results := [.lit (.bool false)], args := [d1, d2, d3] }
  | _ => none }
def MaxStepsWrongFalsely : Prop := maxStepsRow.holds Try.pinned (OpenSpec.ofChange maxStepsWrong)

/-- 'roundelaylaw10.MaxWhole': WHATEVER THE INPUT: true; the input reads as it did. -/
def maxWholeSpec : ChangeSpec := { name := "maxWhole", fn := fun _ => fun
  | [d1, d2, d3] => { results := [.lit (.bool true)], args := [d1, d2, d3] }
  | _ => none }
def maxWholeRow : OpenClaim := { program := "ytjkgfkbanbhkgaa", sum := "c56b9a6e0058a00652ffc4050635c7851da23b35345f278d9eb3bf17d2d4298c", func := "roundelay/roundelaylaw10.MaxWhole", spec := "maxWhole", unfollowed := true, recurses := true, apart := false }
def MaxWholeSaid : Prop := maxWholeRow.holds Try.pinned (OpenSpec.ofChange maxWholeSpec)

/-- ITS FALSE NEIGHBOUR: 'it returns false'. Refute it at one input. -/
def maxWholeWrong : ChangeSpec := { name := "maxWhole", fn := fun _ => fun
  | [d1, d2, d3] => { results := [.lit (.bool false)], args := [d1, d2, d3] }
  | _ => none }
def MaxWholeWrongFalsely : Prop := maxWholeRow.holds Try.pinned (OpenSpec.ofChange maxWholeWrong)

/-- 'roundelaylaw11.CountReads': WHATEVER THE INPUT: true; the input reads as it did. -/
def countReadsSpec : ChangeSpec := { name := "countReads", fn := fun _ => fun
  | [d1, d2, d3] => { results := [.lit (.bool true)], args := [d1, d2, d3] }
  | _ => none }
def countReadsRow : OpenClaim := { program := "ytjkgfkbanbhkgaa", sum := "c56b9a6e0058a00652ffc4050635c7851da23b35345f278d9eb3bf17d2d4298c", func := "roundelay/roundelaylaw11.CountReads", spec := "countReads", unfollowed := true, recurses := true, apart := false }
def CountReadsSaid : Prop := countReadsRow.holds Try.pinned (OpenSpec.ofChange countReadsSpec)

/-- ITS FALSE NEIGHBOUR: 'it returns false'. Refute it at one input. -/
def countReadsWrong : ChangeSpec := { name := "countReads", fn := fun _ => fun
  | [d1, d2, d3] => { results := [.lit (.bool false)], args := [d1, d2, d3] }
  | _ => none }
def CountReadsWrongFalsely : Prop := countReadsRow.holds Try.pinned (OpenSpec.ofChange countReadsWrong)

/-- 'roundelaylaw11.CountSteps': WHATEVER THE INPUT: true; the input reads as it did. -/
def countStepsSpec : ChangeSpec := { name := "countSteps", fn := fun _ => fun
  | [d1, d2, d3] => { results := [.lit (.bool true)], args := [d1, d2, d3] }
  | _ => none }
def countStepsRow : OpenClaim := { program := "ytjkgfkbanbhkgaa", sum := "c56b9a6e0058a00652ffc4050635c7851da23b35345f278d9eb3bf17d2d4298c", func := "roundelay/roundelaylaw11.CountSteps", spec := "countSteps", unfollowed := true, recurses := true, apart := false }
def CountStepsSaid : Prop := countStepsRow.holds Try.pinned (OpenSpec.ofChange countStepsSpec)

/-- ITS FALSE NEIGHBOUR: 'it returns false'. Refute it at one input. -/
def countStepsWrong : ChangeSpec := { name := "countSteps", fn := fun _ => fun
  | [d1, d2, d3] => { results := [.lit (.bool false)], args := [d1, d2, d3] }
  | _ => none }
def CountStepsWrongFalsely : Prop := countStepsRow.holds Try.pinned (OpenSpec.ofChange countStepsWrong)

/-- 'roundelaylaw12.DoorRises': WHATEVER THE INPUT: true; the input reads as it did. -/
def doorRisesSpec : ChangeSpec := { name := "doorRises", fn := fun _ => fun
  | [d1, d2, d3] => { results := [.lit (.bool true)], args := [d1, d2, d3] }
  | _ => none }
def doorRisesRow : OpenClaim := { program := "ytjkgfkbanbhkgaa", sum := "c56b9a6e0058a00652ffc4050635c7851da23b35345f278d9eb3bf17d2d4298c", func := "roundelay/roundelaylaw12.DoorRises", spec := "doorRises", unfollowed := true, recurses := true, apart := false }
def DoorRisesSaid : Prop := doorRisesRow.holds Try.pinned (OpenSpec.ofChange doorRisesSpec)

/-- ITS FALSE NEIGHBOUR: 'it returns false'. Refute it at one input. -/
def doorRisesWrong : ChangeSpec := { name := "doorRises", fn := fun _ => fun
  | [d1, d2, d3] => { results := [.lit (.bool false)], args := [d1, d2, d3] }
  | _ => none }
def DoorRisesWrongFalsely : Prop := doorRisesRow.holds Try.pinned (OpenSpec.ofChange doorRisesWrong)

/-- 'roundelaylaw13.PoolOnce': WHATEVER THE INPUT: true; the input reads as it did. -/
def poolOnceSpec : ChangeSpec := { name := "poolOnce", fn := fun _ => fun
  | [d1, d2, d3] => { results := [.lit (.bool true)], args := [d1, d2, d3] }
  | _ => none }
def poolOnceRow : OpenClaim := { program := "ytjkgfkbanbhkgaa", sum := "c56b9a6e0058a00652ffc4050635c7851da23b35345f278d9eb3bf17d2d4298c", func := "roundelay/roundelaylaw13.PoolOnce", spec := "poolOnce", unfollowed := true, recurses := true, apart := false }
def PoolOnceSaid : Prop := poolOnceRow.holds Try.pinned (OpenSpec.ofChange poolOnceSpec)

/-- ITS FALSE NEIGHBOUR: 'it returns false'. Refute it at one input. -/
def poolOnceWrong : ChangeSpec := { name := "poolOnce", fn := fun _ => fun
  | [d1, d2, d3] => { results := [.lit (.bool false)], args := [d1, d2, d3] }
  | _ => none }
def PoolOnceWrongFalsely : Prop := poolOnceRow.holds Try.pinned (OpenSpec.ofChange poolOnceWrong)

/-- 'roundelaylaw13.PoolFull': WHATEVER THE INPUT: true; the input reads as it did. -/
def poolFullSpec : ChangeSpec := { name := "poolFull", fn := fun _ => fun
  | [d1, d2, d3] => { results := [.lit (.bool true)], args := [d1, d2, d3] }
  | _ => none }
def poolFullRow : OpenClaim := { program := "ytjkgfkbanbhkgaa", sum := "c56b9a6e0058a00652ffc4050635c7851da23b35345f278d9eb3bf17d2d4298c", func := "roundelay/roundelaylaw13.PoolFull", spec := "poolFull", unfollowed := true, recurses := true, apart := false }
def PoolFullSaid : Prop := poolFullRow.holds Try.pinned (OpenSpec.ofChange poolFullSpec)

/-- ITS FALSE NEIGHBOUR: 'it returns false'. Refute it at one input. -/
def poolFullWrong : ChangeSpec := { name := "poolFull", fn := fun _ => fun
  | [d1, d2, d3] => { results := [.lit (.bool false)], args := [d1, d2, d3] }
  | _ => none }
def PoolFullWrongFalsely : Prop := poolFullRow.holds Try.pinned (OpenSpec.ofChange poolFullWrong)

/- THE SECOND FORM. 'bulk': how many values and letters a reading holds, each counted each time it is reached (what is shared counts as often as it is met; a slice's spare places count too). A statement '..UptoSaid' is the law's where the arguments, and the package variables that the reading takes, are together of bulk at most 1048576: NARROWER than '..Said'. Prove '..Said' where nothing that the law and all that it calls make is longer than what came in: it says more and counts as full. Else prove '..UptoSaid'. A law counts once. -/
mutual
def uptoBulk {H : Type} : DataW H → Nat
  | .lit (.string bytes) => bytes.length + 1
  | .lit _ => 1
  | .nil => 1
  | .ptr d => uptoBulk d + 1
  | .slice elems spare => uptoBulkAll elems + uptoBulkAll spare + 1
  | .agg parts => uptoBulkAll parts + 1
  | .iface _ d => uptoBulk d + 1
  | .map entries => uptoBulkEntries entries + 1
  | .held _ => 1
def uptoBulkAll {H : Type} : List (DataW H) → Nat
  | [] => 0
  | d :: r => uptoBulk d + uptoBulkAll r
def uptoBulkEntries {H : Type} : List (Lit × DataW H) → Nat
  | [] => 0
  | x :: r => uptoBulkEntry x + uptoBulkEntries r
def uptoBulkEntry {H : Type} : Lit × DataW H → Nat
  | (.string bytes, d) => bytes.length + uptoBulk d + 1
  | (_, d) => uptoBulk d + 1
 end
def uptoSmall : (H : Type) → List (DataW H) → Bool := fun _ ds => decide (uptoBulkAll ds ≤ 1048576)
def OpenSpec.upto (s : _root_.Go.ChangeSpec) : _root_.Go.OpenSpec := { _root_.Go.OpenSpec.ofChange s with cond := some uptoSmall }

/-- 'roundelaylaw06.LoomWhole', WHERE WHAT IT READS IS OF BULK AT MOST 1048576: true; the input reads as it did. -/
def loomWholeUptoRow : OpenClaim := { program := "ytjkgfkbanbhkgaa", sum := "c56b9a6e0058a00652ffc4050635c7851da23b35345f278d9eb3bf17d2d4298c", func := "roundelay/roundelaylaw06.LoomWhole", spec := "loomWhole", unfollowed := true, recurses := true, apart := false, narrowed := true }
def LoomWholeUptoSaid : Prop := loomWholeUptoRow.holds Try.pinned (OpenSpec.upto loomWholeSpec)

/-- 'roundelaylaw07.ConsWhole', WHERE WHAT IT READS IS OF BULK AT MOST 1048576: true; the input reads as it did. -/
def consWholeUptoRow : OpenClaim := { program := "ytjkgfkbanbhkgaa", sum := "c56b9a6e0058a00652ffc4050635c7851da23b35345f278d9eb3bf17d2d4298c", func := "roundelay/roundelaylaw07.ConsWhole", spec := "consWhole", unfollowed := true, recurses := true, apart := false, narrowed := true }
def ConsWholeUptoSaid : Prop := consWholeUptoRow.holds Try.pinned (OpenSpec.upto consWholeSpec)

/-- 'roundelaylaw08.TallyReads', WHERE WHAT IT READS IS OF BULK AT MOST 1048576: true; the input reads as it did. -/
def tallyReadsUptoRow : OpenClaim := { program := "ytjkgfkbanbhkgaa", sum := "c56b9a6e0058a00652ffc4050635c7851da23b35345f278d9eb3bf17d2d4298c", func := "roundelay/roundelaylaw08.TallyReads", spec := "tallyReads", unfollowed := true, recurses := true, apart := false, narrowed := true }
def TallyReadsUptoSaid : Prop := tallyReadsUptoRow.holds Try.pinned (OpenSpec.upto tallyReadsSpec)

/-- 'roundelaylaw09.AdderTickets', WHERE WHAT IT READS IS OF BULK AT MOST 1048576: true; the input reads as it did. -/
def adderTicketsUptoRow : OpenClaim := { program := "ytjkgfkbanbhkgaa", sum := "c56b9a6e0058a00652ffc4050635c7851da23b35345f278d9eb3bf17d2d4298c", func := "roundelay/roundelaylaw09.AdderTickets", spec := "adderTickets", unfollowed := true, recurses := true, apart := false, narrowed := true }
def AdderTicketsUptoSaid : Prop := adderTicketsUptoRow.holds Try.pinned (OpenSpec.upto adderTicketsSpec)

/-- 'roundelaylaw10.MaxReads', WHERE WHAT IT READS IS OF BULK AT MOST 1048576: true; the input reads as it did. -/
def maxReadsUptoRow : OpenClaim := { program := "ytjkgfkbanbhkgaa", sum := "c56b9a6e0058a00652ffc4050635c7851da23b35345f278d9eb3bf17d2d4298c", func := "roundelay/roundelaylaw10.MaxReads", spec := "maxReads", unfollowed := true, recurses := true, apart := false, narrowed := true }
def MaxReadsUptoSaid : Prop := maxReadsUptoRow.holds Try.pinned (OpenSpec.upto maxReadsSpec)

/-- 'roundelaylaw10.MaxSteps', WHERE WHAT IT READS IS OF BULK AT MOST 1048576: true; the input reads as it did. -/
def maxStepsUptoRow : OpenClaim := { program := "ytjkgfkbanbhkgaa", sum := "c56b9a6e0058a00652ffc4050635c7851da23b35345f278d9eb3bf17d2d4298c", func := "roundelay/roundelaylaw10.MaxSteps", spec := "maxSteps", unfollowed := true, recurses := true, apart := false, narrowed := true }
def MaxStepsUptoSaid : Prop := maxStepsUptoRow.holds Try.pinned (OpenSpec.upto maxStepsSpec)

/-- 'roundelaylaw10.MaxWhole', WHERE WHAT IT READS IS OF BULK AT MOST 1048576: true; the input reads as it did. -/
def maxWholeUptoRow : OpenClaim := { program := "ytjkgfkbanbhkgaa", sum := "c56b9a6e0058a00652ffc4050635c7851da23b35345f278d9eb3bf17d2d4298c", func := "roundelay/roundelaylaw10.MaxWhole", spec := "maxWhole", unfollowed := true, recurses := true, apart := false, narrowed := true }
def MaxWholeUptoSaid : Prop := maxWholeUptoRow.holds Try.pinned (OpenSpec.upto maxWholeSpec)

/-- 'roundelaylaw11.CountReads', WHERE WHAT IT READS IS OF BULK AT MOST 1048576: true; the input reads as it did. -/
def countReadsUptoRow : OpenClaim := { program := "ytjkgfkbanbhkgaa", sum := "c56b9a6e0058a00652ffc4050635c7851da23b35345f278d9eb3bf17d2d4298c", func := "roundelay/roundelaylaw11.CountReads", spec := "countReads", unfollowed := true, recurses := true, apart := false, narrowed := true }
def CountReadsUptoSaid : Prop := countReadsUptoRow.holds Try.pinned (OpenSpec.upto countReadsSpec)

/-- 'roundelaylaw11.CountSteps', WHERE WHAT IT READS IS OF BULK AT MOST 1048576: true; the input reads as it did. -/
def countStepsUptoRow : OpenClaim := { program := "ytjkgfkbanbhkgaa", sum := "c56b9a6e0058a00652ffc4050635c7851da23b35345f278d9eb3bf17d2d4298c", func := "roundelay/roundelaylaw11.CountSteps", spec := "countSteps", unfollowed := true, recurses := true, apart := false, narrowed := true }
def CountStepsUptoSaid : Prop := countStepsUptoRow.holds Try.pinned (OpenSpec.upto countStepsSpec)

/-- 'roundelaylaw12.DoorRises', WHERE WHAT IT READS IS OF BULK AT MOST 1048576: true; the input reads as it did. -/
def doorRisesUptoRow : OpenClaim := { program := "ytjkgfkbanbhkgaa", sum := "c56b9a6e0058a00652ffc4050635c7851da23b35345f278d9eb3bf17d2d4298c", func := "roundelay/roundelaylaw12.DoorRises", spec := "doorRises", unfollowed := true, recurses := true, apart := false, narrowed := true }
def DoorRisesUptoSaid : Prop := doorRisesUptoRow.holds Try.pinned (OpenSpec.upto doorRisesSpec)

/-- 'roundelaylaw13.PoolOnce', WHERE WHAT IT READS IS OF BULK AT MOST 1048576: true; the input reads as it did. -/
def poolOnceUptoRow : OpenClaim := { program := "ytjkgfkbanbhkgaa", sum := "c56b9a6e0058a00652ffc4050635c7851da23b35345f278d9eb3bf17d2d4298c", func := "roundelay/roundelaylaw13.PoolOnce", spec := "poolOnce", unfollowed := true, recurses := true, apart := false, narrowed := true }
def PoolOnceUptoSaid : Prop := poolOnceUptoRow.holds Try.pinned (OpenSpec.upto poolOnceSpec)

/-- 'roundelaylaw13.PoolFull', WHERE WHAT IT READS IS OF BULK AT MOST 1048576: true; the input reads as it did. -/
def poolFullUptoRow : OpenClaim := { program := "ytjkgfkbanbhkgaa", sum := "c56b9a6e0058a00652ffc4050635c7851da23b35345f278d9eb3bf17d2d4298c", func := "roundelay/roundelaylaw13.PoolFull", spec := "poolFull", unfollowed := true, recurses := true, apart := false, narrowed := true }
def PoolFullUptoSaid : Prop := poolFullUptoRow.holds Try.pinned (OpenSpec.upto poolFullSpec)

end Rows
end Go.Proofs.Ytjkgfkbanbhkgaa
