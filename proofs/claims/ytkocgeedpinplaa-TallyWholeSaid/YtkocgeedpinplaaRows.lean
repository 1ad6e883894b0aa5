/-
  No cell of these rows narrows 'for every input' (looked for: loops, veiled, ifaces, maps, wideKeys, modest, calm, conditions, laid).
  DERIVED. THE GIVEN ROWS OF THIS SEAT. 12 by the template 'for every input the law returns true; each argument reads behind the call as it read before'; 0 by the template 'total and deterministic' (their statements: YtkocgeedpinplaaTotals.lean).
  GIVEN WITH THE SEED: the statements are not yours to turn. If you find one false, say at which input.
  Laid BY PROGRAM, IN A SANDBOX (cutbox-rows.mjs): the forced cells as the released guide's own fill.sh prints them over the translation 20addd0c227de2d7… (all of the seat's roots in one cut). By AI agents, Wed Nov 11 2026. No macro, syntax, notation, axiom, sorry.
-/
import Derived.Test.YtkocgeedpinplaaChecked
import GoSem.Claim
import GoSem.ClaimJoined
import GoSem.ClaimMapViews
import Derived.JoinedTies
import Derived.KernelRfl
namespace Go.Proofs.Ytkocgeedpinplaa
/- THE CELL 'sum', in the pinned program and in every row, IS THE sha256 OF THE DUMP (.gsa) THAT YtkocgeedpinplaaProg.lean LOADS. Nothing in Lean hashes anything: it is a label: what it is worth is what the hold of that sum in a sandbox is worth. -/
noncomputable def Try.pinned : Pinned := { name := "ytkocgeedpinplaa", sum := "20addd0c227de2d7e769a361bc3097b0f8e132dc414320d77e9e9aff38ca2e1e", checked := Try.checked }
namespace Rows
def none {H : Type} : Left H := { results := [], args := [] }

/-- 'roundelaylaw02.MemLast': WHATEVER THE INPUT: true; the input reads as it did. -/
def memLastSpec : ChangeSpec := { name := "memLast", fn := fun _ => fun
  | [d1, d2, d3] => { results := [.lit (.bool true)], args := [d1, d2, d3] }
  | _ => none }
def memLastRow : OpenClaim := { program := "ytkocgeedpinplaa", sum := "20addd0c227de2d7e769a361bc3097b0f8e132dc414320d77e9e9aff38ca2e1e", func := "roundelay/roundelaylaw02.MemLast", spec := "memLast", unfollowed := true, recurses := true, apart := false }
def MemLastSaid : Prop := memLastRow.holds Try.pinned (OpenSpec.ofChange memLastSpec)

/-- ITS FALSE NEIGHBOUR: 'it returns false'. Refute it at one input. -/
def memLastWrong : ChangeSpec := { name := "memLast", fn := fun _ => fun
  | [d1, d2, d3] => { results := [.lit (.bool false)], args := [d1, d2, d3] }
  | _ => none }
def MemLastWrongFalsely : Prop := memLastRow.holds Try.pinned (OpenSpec.ofChange memLastWrong)

/-- 'roundelaylaw02.MemPlays': WHATEVER THE INPUT: true; the input reads as it did. -/
def memPlaysSpec : ChangeSpec := { name := "memPlays", fn := fun _ => fun
  | [d1, d2] => { results := [.lit (.bool true)], args := [d1, d2] }
  | _ => none }
def memPlaysRow : OpenClaim := { program := "ytkocgeedpinplaa", sum := "20addd0c227de2d7e769a361bc3097b0f8e132dc414320d77e9e9aff38ca2e1e", func := "roundelay/roundelaylaw02.MemPlays", spec := "memPlays", unfollowed := true, recurses := true, apart := false }
def MemPlaysSaid : Prop := memPlaysRow.holds Try.pinned (OpenSpec.ofChange memPlaysSpec)

/-- ITS FALSE NEIGHBOUR: 'it returns false'. Refute it at one input. -/
def memPlaysWrong : ChangeSpec := { name := "memPlays", fn := fun _ => fun
  | [d1, d2] => { results := [.lit (.bool false)], args := [d1, d2] }
  | _ => none }
def MemPlaysWrongFalsely : Prop := memPlaysRow.holds Try.pinned (OpenSpec.ofChange memPlaysWrong)

/-- 'roundelaylaw02.MemOwn': WHATEVER THE INPUT: true; the input reads as it did. -/
def memOwnSpec : ChangeSpec := { name := "memOwn", fn := fun _ => fun
  | [d1, d2] => { results := [.lit (.bool true)], args := [d1, d2] }
  | _ => none }
def memOwnRow : OpenClaim := { program := "ytkocgeedpinplaa", sum := "20addd0c227de2d7e769a361bc3097b0f8e132dc414320d77e9e9aff38ca2e1e", func := "roundelay/roundelaylaw02.MemOwn", spec := "memOwn", unfollowed := true, recurses := true, apart := false }
def MemOwnSaid : Prop := memOwnRow.holds Try.pinned (OpenSpec.ofChange memOwnSpec)

/-- ITS FALSE NEIGHBOUR: 'it returns false'. Refute it at one input. -/
def memOwnWrong : ChangeSpec := { name := "memOwn", fn := fun _ => fun
  | [d1, d2] => { results := [.lit (.bool false)], args := [d1, d2] }
  | _ => none }
def MemOwnWrongFalsely : Prop := memOwnRow.holds Try.pinned (OpenSpec.ofChange memOwnWrong)

/-- 'roundelaylaw06.LoomRows': WHATEVER THE INPUT: true; the input reads as it did. -/
def loomRowsSpec : ChangeSpec := { name := "loomRows", fn := fun _ => fun
  | [d1, d2, d3] => { results := [.lit (.bool true)], args := [d1, d2, d3] }
  | _ => none }
def loomRowsRow : OpenClaim := { program := "ytkocgeedpinplaa", sum := "20addd0c227de2d7e769a361bc3097b0f8e132dc414320d77e9e9aff38ca2e1e", func := "roundelay/roundelaylaw06.LoomRows", spec := "loomRows", unfollowed := true, recurses := true, apart := false }
def LoomRowsSaid : Prop := loomRowsRow.holds Try.pinned (OpenSpec.ofChange loomRowsSpec)

/-- ITS FALSE NEIGHBOUR: 'it returns false'. Refute it at one input. -/
def loomRowsWrong : ChangeSpec := { name := "loomRows", fn := fun _ => fun
  | [d1, d2, d3] => { results := [.lit (.bool false)], args := [d1, d2, d3] }
  | _ => none }
def LoomRowsWrongFalsely : Prop := loomRowsRow.holds Try.pinned (OpenSpec.ofChange loomRowsWrong)

/-- 'roundelaylaw06.LoomStays': WHATEVER THE INPUT: true; the input reads as it did. -/
def loomStaysSpec : ChangeSpec := { name := "loomStays", fn := fun _ => fun
  | [d1, d2, d3] => { results := [.lit (.bool true)], args := [d1, d2, d3] }
  | _ => none }
def loomStaysRow : OpenClaim := { program := "ytkocgeedpinplaa", sum := "20addd0c227de2d7e769a361bc3097b0f8e132dc414320d77e9e9aff38ca2e1e", func := "roundelay/roundelaylaw06.LoomStays", spec := "loomStays", unfollowed := true, recurses := true, apart := false }
def LoomStaysSaid : Prop := loomStaysRow.holds Try.pinned (OpenSpec.ofChange loomStaysSpec)

/-- ITS FALSE NEIGHBOUR: 'it returns false'. Refute it at one input. -/
def loomStaysWrong : ChangeSpec := { name := "loomStays", fn := fun _ => fun
  | [d1, d2, d3] => { results := [.lit (.bool false)], args := [d1, d2, d3] }
  | _ => none }
def LoomStaysWrongFalsely : Prop := loomStaysRow.holds Try.pinned (OpenSpec.ofChange loomStaysWrong)

/-- 'roundelaylaw06.LoomWhole': WHATEVER THE INPUT: true; the input reads as it did. -/
def loomWholeSpec : ChangeSpec := { name := "loomWhole", fn := fun _ => fun
  | [d1, d2, d3] => { results := [.lit (.bool true)], args := [d1, d2, d3] }
  | _ => none }
def loomWholeRow : OpenClaim := { program := "ytkocgeedpinplaa", sum := "20addd0c227de2d7e769a361bc3097b0f8e132dc414320d77e9e9aff38ca2e1e", func := "roundelay/roundelaylaw06.LoomWhole", spec := "loomWhole", unfollowed := true, recurses := true, apart := false }
def LoomWholeSaid : Prop := loomWholeRow.holds Try.pinned (OpenSpec.ofChange loomWholeSpec)

/-- ITS FALSE NEIGHBOUR: 'it returns false'. Refute it at one input. -/
def loomWholeWrong : ChangeSpec := { name := "loomWhole", fn := fun _ => fun
  | [d1, d2, d3] => { results := [.lit (.bool false)], args := [d1, d2, d3] }
  | _ => none }
def LoomWholeWrongFalsely : Prop := loomWholeRow.holds Try.pinned (OpenSpec.ofChange loomWholeWrong)

/-- 'roundelaylaw07.ConsAgrees': WHATEVER THE INPUT: true; the input reads as it did. -/
def consAgreesSpec : ChangeSpec := { name := "consAgrees", fn := fun _ => fun
  | [d1, d2, d3] => { results := [.lit (.bool true)], args := [d1, d2, d3] }
  | _ => none }
def consAgreesRow : OpenClaim := { program := "ytkocgeedpinplaa", sum := "20addd0c227de2d7e769a361bc3097b0f8e132dc414320d77e9e9aff38ca2e1e", func := "roundelay/roundelaylaw07.ConsAgrees", spec := "consAgrees", unfollowed := true, recurses := true, apart := false }
def ConsAgreesSaid : Prop := consAgreesRow.holds Try.pinned (OpenSpec.ofChange consAgreesSpec)

/-- ITS FALSE NEIGHBOUR: 'it returns false'. Refute it at one input. -/
def consAgreesWrong : ChangeSpec := { name := "consAgrees", fn := fun _ => fun
  | [d1, d2, d3] => { results := [.lit (.bool false)], args := [d1, d2, d3] }
  | _ => none }
def ConsAgreesWrongFalsely : Prop := consAgreesRow.holds Try.pinned (OpenSpec.ofChange consAgreesWrong)

/-- 'roundelaylaw07.ConsWhole': WHATEVER THE INPUT: true; the input reads as it did. -/
def consWholeSpec : ChangeSpec := { name := "consWhole", fn := fun _ => fun
  | [d1, d2, d3] => { results := [.lit (.bool true)], args := [d1, d2, d3] }
  | _ => none }
def consWholeRow : OpenClaim := { program := "ytkocgeedpinplaa", sum := "20addd0c227de2d7e769a361bc3097b0f8e132dc414320d77e9e9aff38ca2e1e", func := "roundelay/roundelaylaw07.ConsWhole", spec := "consWhole", unfollowed := true, recurses := true, apart := false }
def ConsWholeSaid : Prop := consWholeRow.holds Try.pinned (OpenSpec.ofChange consWholeSpec)

/-- ITS FALSE NEIGHBOUR: 'it returns false'. Refute it at one input. -/
def consWholeWrong : ChangeSpec := { name := "consWhole", fn := fun _ => fun
  | [d1, d2, d3] => { results := [.lit (.bool false)], args := [d1, d2, d3] }
  | _ => none }
def ConsWholeWrongFalsely : Prop := consWholeRow.holds Try.pinned (OpenSpec.ofChange consWholeWrong)

/-- 'roundelaylaw08.TallyReads': WHATEVER THE INPUT: true; the input reads as it did. -/
def tallyReadsSpec : ChangeSpec := { name := "tallyReads", fn := fun _ => fun
  | [d1, d2, d3] => { results := [.lit (.bool true)], args := [d1, d2, d3] }
  | _ => none }
def tallyReadsRow : OpenClaim := { program := "ytkocgeedpinplaa", sum := "20addd0c227de2d7e769a361bc3097b0f8e132dc414320d77e9e9aff38ca2e1e", func := "roundelay/roundelaylaw08.TallyReads", spec := "tallyReads", unfollowed := true, recurses := true, apart := false }
def TallyReadsSaid : Prop := tallyReadsRow.holds Try.pinned (OpenSpec.ofChange tallyReadsSpec)

/-- ITS FALSE NEIGHBOUR: 'it returns false'. Refute it at one input. -/
def tallyReadsWrong : ChangeSpec := { name := "tallyReads", fn := fun _ => fun
  | [d1, d2, d3] => { results := [.lit (.bool false)], args := [d1, d2, d3] }
  | _ => none }
def TallyReadsWrongFalsely : Prop := tallyReadsRow.holds Try.pinned (OpenSpec.ofChange tallyReadsWrong)

/-- 'roundelaylaw08.TallyWhole': WHATEVER THE INPUT: true; the input reads as it did. -/
def tallyWholeSpec : ChangeSpec := { name := "tallyWhole", fn := fun _ => fun
  | [d1, d2, d3] => { results := [.lit (.bool true)], args := [d1, d2, d3] }
  | _ => none }
def tallyWholeRow : OpenClaim := { program := "ytkocgeedpinplaa", sum := "20addd0c227de2d7e769a361bc3097b0f8e132dc414320d77e9e9aff38ca2e1e", func := "roundelay/roundelaylaw08.TallyWhole", spec := "tallyWhole", unfollowed := true, recurses := true, apart := false }
def TallyWholeSaid : Prop := tallyWholeRow.holds Try.pinned (OpenSpec.ofChange tallyWholeSpec)

/-- ITS FALSE NEIGHBOUR: 'it returns false'. Refute it at one input. -/
def tallyWholeWrong : ChangeSpec := { name := "tallyWhole", fn := fun _ => fun
  | [d1, d2, d3] => { results := [.lit (.bool false)], args := [d1, d2, d3] }
  | _ => none }
def TallyWholeWrongFalsely : Prop := tallyWholeRow.holds Try.pinned (OpenSpec.ofChange tallyWholeWrong)

/-- 'roundelaylaw09.AdderTickets': WHATEVER THE INPUT: true; the input reads as it did. -/
def adderTicketsSpec : ChangeSpec := { name := "adderTickets", fn := fun _ => fun
  | [d1, d2, d3] => { results := [.lit (.bool true)], args := [d1, d2, d3] }
  | _ => none }
def adderTicketsRow : OpenClaim := { program := "ytkocgeedpinplaa", sum := "20addd0c227de2d7e769a361bc3097b0f8e132dc414320d77e9e9aff38ca2e1e", func := "roundelay/roundelaylaw09.AdderTickets", spec := "adderTickets", unfollowed := true, recurses := true, apart := false }
def AdderTicketsSaid : Prop := adderTicketsRow.holds Try.pinned (OpenSpec.ofChange adderTicketsSpec)

/-- ITS FALSE NEIGHBOUR: 'it returns false'. Refute it at one input. -/
def adderTicketsWrong : ChangeSpec := { name := "adderTickets", fn := fun _ => fun
  | [d1, d2, d3] => { results := [.lit (.bool false)], args := [d1, d2, d3] }
  | _ => none }
def AdderTicketsWrongFalsely : Prop := adderTicketsRow.holds Try.pinned (OpenSpec.ofChange adderTicketsWrong)

/-- 'roundelaylaw09.AdderWhole': WHATEVER THE INPUT: true; the input reads as it did. -/
def adderWholeSpec : ChangeSpec := { name := "adderWhole", fn := fun _ => fun
  | [d1, d2, d3] => { results := [.lit (.bool true)], args := [d1, d2, d3] }
  | _ => none }
def adderWholeRow : OpenClaim := { program := "ytkocgeedpinplaa", sum := "20addd0c227de2d7e769a361bc3097b0f8e132dc414320d77e9e9aff38ca2e1e", func := "roundelay/roundelaylaw09.AdderWhole", spec := "adderWhole", unfollowed := true, recurses := true, apart := false }
def AdderWholeSaid : Prop := adderWholeRow.holds Try.pinned (OpenSpec.ofChange adderWholeSpec)

/-- ITS FALSE NEIGHBOUR: 'it returns false'. Refute it at one input. -/
def adderWholeWrong : ChangeSpec := { name := "adderWhole", fn := fun _ => fun
  | [d1, d2, d3] => { results := [.lit (.bool false)], args := [d1, d2, d3] }
  | _ => none }
def AdderWholeWrongFalsely : Prop := adderWholeRow.holds Try.pinned (OpenSpec.ofChange adderWholeWrong)

/- THE SECOND FORM. 'bulk': how many values and letters a reading holds, each counted each time it is reached (what is shared counts as often as it is met; a slice's spare places count too). A statement '..UptoSaid' is the law's where the arguments, and the package variables that the reading takes, are together of bulk at most 1048576: NARROWER than '..Said'. Prove '..Said' where nothing that the law and all that it calls make is longer than what came in: it says more and counts as full. Else prove '..UptoSaid'. A law counts once. -/
mutual
def uptoBulk {H : Type} : DataW H → Nat
  | .lit (.string bytes) => bytes.length + 1
  | .lit _ => 1
  | .nil => 1
  | .ptr d => uptoBulk d + 1
  | .slice elems spare => uptoBulkAll elems + uptoBulkAll spare + 1
  | .agg parts => uptoBulkAll parts + 1
  | .iface _ d => uptoBulk d + 1
  | .map entries => uptoBulkEntries entries + 1
  | .held _ => 1
def uptoBulkAll {H : Type} : List (DataW H) → Nat
  | [] => 0
  | d :: r => uptoBulk d + uptoBulkAll r
def uptoBulkEntries {H : Type} : List (Lit × DataW H) → Nat
  | [] => 0
  | x :: r => uptoBulkEntry x + uptoBulkEntries r
def uptoBulkEntry {H : Type} : Lit × DataW H → Nat
  | (.string bytes, d) => bytes.length + uptoBulk d + 1
  | (_, d) => uptoBulk d + 1
 end
def uptoSmall : (H : Type) → List (DataW H) → Bool := fun _ ds => decide (uptoBulkAll ds ≤ 1048576)
def OpenSpec.upto (s : _root_.Go.ChangeSpec) : _root_.Go.OpenSpec := { _root_.Go.OpenSpec.ofChange s with cond := some uptoSmall }

/-- 'roundelaylaw02.MemLast', WHERE WHAT IT READS IS OF BULK AT MOST 1048576: true; the input reads as it did. -/
def memLastUptoRow : OpenClaim := { program := "ytkocgeedpinplaa", sum := "20addd0c227de2d7e769a361bc3097b0f8e132dc414320d77e9e9aff38ca2e1e", func := "roundelay/roundelaylaw02.MemLast", spec := "memLast", unfollowed := true, recurses := true, apart := false, narrowed := true }
def MemLastUptoSaid : Prop := memLastUptoRow.holds Try.pinned (OpenSpec.upto memLastSpec)

/-- 'roundelaylaw02.MemPlays', WHERE WHAT IT READS IS OF BULK AT MOST 1048576: true; the input reads as it did. -/
def memPlaysUptoRow : OpenClaim := { program := "ytkocgeedpinplaa", sum := "20addd0c227de2d7e769a361bc3097b0f8e132dc414320d77e9e9aff38ca2e1e", func := "roundelay/roundelaylaw02.MemPlays", spec := "memPlays", unfollowed := true, recurses := true, apart := false, narrowed := true }
def MemPlaysUptoSaid : Prop := memPlaysUptoRow.holds Try.pinned (OpenSpec.upto memPlaysSpec)

/-- 'roundelaylaw02.MemOwn', WHERE WHAT IT READS IS OF BULK AT MOST 1048576: true; the input reads as it did. -/
def memOwnUptoRow : OpenClaim := { program := "ytkocgeedpinplaa", sum := "20addd0c227de2d7e769a361bc3097b0f8e132dc414320d77e9e9aff38ca2e1e", func := "roundelay/roundelaylaw02.MemOwn", spec := "memOwn", unfollowed := true, recurses := true, apart := false, narrowed := true }
def MemOwnUptoSaid : Prop := memOwnUptoRow.holds Try.pinned (OpenSpec.upto memOwnSpec)

/-- 'roundelaylaw06.LoomRows', WHERE WHAT IT READS IS OF BULK AT MOST 1048576: true; the input reads as it did. -/
def loomRowsUptoRow : OpenClaim := { program := "ytkocgeedpinplaa", sum := "20addd0c227de2d7e769a361bc3097b0f8e132dc414320d77e9e9aff38ca2e1e", func := "roundelay/roundelaylaw06.LoomRows", spec := "loomRows", unfollowed := true, recurses := true, apart := false, narrowed := true }
def LoomRowsUptoSaid : Prop := loomRowsUptoRow.holds Try.pinned (OpenSpec.upto loomRowsSpec)

/-- 'roundelaylaw06.LoomStays', WHERE WHAT IT READS IS OF BULK AT MOST 1048576: true; the input reads as it did. -/
def loomStaysUptoRow : OpenClaim := { program := "ytkocgeedpinplaa", sum := "20addd0c227de2d7e769a361bc3097b0f8e132dc414320d77e9e9aff38ca2e1e", func := "roundelay/roundelaylaw06.LoomStays", spec := "loomStays", unfollowed := true, recurses := true, apart := false, narrowed := true }
def LoomStaysUptoSaid : Prop := loomStaysUptoRow.holds Try.pinned (OpenSpec.upto loomStaysSpec)

/-- 'roundelaylaw06.LoomWhole', WHERE WHAT IT READS IS OF BULK AT MOST 1048576: true; the input reads as it did. -/
def loomWholeUptoRow : OpenClaim := { program := "ytkocgeedpinplaa", sum := "20addd0c227de2d7e769a361bc3097b0f8e132dc414320d77e9e9aff38ca2e1e", func := "roundelay/roundelaylaw06.LoomWhole", spec := "loomWhole", unfollowed := true, recurses := true, apart := false, narrowed := true }
def LoomWholeUptoSaid : Prop := loomWholeUptoRow.holds Try.pinned (OpenSpec.upto loomWholeSpec)

/-- 'roundelaylaw07.ConsAgrees', WHERE WHAT IT READS IS OF BULK AT MOST 1048576: true; the input reads as it did. -/
def consAgreesUptoRow : OpenClaim := { program := "ytkocgeedpinplaa", sum := "20addd0c227de2d7e769a361bc3097b0f8e132dc414320d77e9e9aff38ca2e1e", func := "roundelay/roundelaylaw07.ConsAgrees", spec := "consAgrees", unfollowed := true, recurses := true, apart := false, narrowed := true }
def ConsAgreesUptoSaid : Prop := consAgreesUptoRow.holds Try.pinned (OpenSpec.upto consAgreesSpec)

/-- 'roundelaylaw07.ConsWhole', WHERE WHAT IT READS IS OF BULK AT MOST 1048576: true; the input reads as it did. -/
def consWholeUptoRow : OpenClaim := { program := "ytkocgeedpinplaa", sum := "20addd0c227de2d7e769a361bc3097b0f8e132dc414320d77e9e9aff38ca2e1e", func := "roundelay/roundelaylaw07.ConsWhole", spec := "consWhole", unfollowed := true, recurses := true, apart := false, narrowed := true }
def ConsWholeUptoSaid : Prop := consWholeUptoRow.holds Try.pinned (OpenSpec.upto consWholeSpec)

/-- 'roundelaylaw08.TallyReads', WHERE WHAT IT READS IS OF BULK AT MOST 1048576: true; the input reads as it did. -/
def tallyReadsUptoRow : OpenClaim := { program := "ytkocgeedpinplaa", sum := "20addd0c227de2d7e769a361bc3097b0f8e132dc414320d77e9e9aff38ca2e1e", func := "roundelay/roundelaylaw08.TallyReads", spec := "tallyReads", unfollowed := true, recurses := true, apart := false, narrowed := true }
def TallyReadsUptoSaid : Prop := tallyReadsUptoRow.holds Try.pinned (OpenSpec.upto tallyReadsSpec)

/-- 'roundelaylaw08.TallyWhole', WHERE WHAT IT READS IS OF BULK AT MOST 1048576: true; the input reads as it did. -/
def tallyWholeUptoRow : OpenClaim := { program := "ytkocgeedpinplaa", sum := "20addd0c227de2d7e769a361bc3097b0f8e132dc414320d77e9e9aff38ca2e1e", func := "roundelay/roundelaylaw08.TallyWhole", spec := "tallyWhole", unfollowed := true, recurses := true, apart := false, narrowed := true }
def TallyWholeUptoSaid : Prop := tallyWholeUptoRow.holds Try.pinned (OpenSpec.upto tallyWholeSpec)

/-- 'roundelaylaw09.AdderTickets', WHERE WHAT IT READS IS OF BULK AT MOST 1048576: true; the input reads as it did. -/
def adderTicketsUptoRow : OpenClaim := { program := "ytkocgeedpinplaa", sum := "20addd0c227de2d7e769a361bc3097b0f8e132dc414320d77e9e9aff38ca2e1e", func := "roundelay/roundelaylaw09.AdderTickets", spec := "adderTickets", unfollowed := true, recurses := true, apart := false, narrowed := true }
def AdderTicketsUptoSaid : Prop := adderTicketsUptoRow.holds Try.pinned (OpenSpec.upto adderTicketsSpec)

/-- 'roundelaylaw09.AdderWhole', WHERE WHAT IT READS IS OF BULK AT MOST 1048576: true; the input reads as it did. -/
def adderWholeUptoRow : OpenClaim := { program := "ytkocgeedpinplaa", sum := "20addd0c227de2d7e769a361bc3097b0f8e132dc414320d77e9e9aff38ca2e1e", func := "roundelay/roundelaylaw09.AdderWhole", spec := "adderWhole", unfollowed := true, recurses := true, apart := false, narrowed := true }
def AdderWholeUptoSaid : Prop := adderWholeUptoRow.holds Try.pinned (OpenSpec.upto adderWholeSpec)

end Rows
end Go.Proofs.Ytkocgeedpinplaa
