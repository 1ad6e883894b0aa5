/-
  No cell of these rows narrows 'for every input' (looked for: loops, veiled, ifaces, maps, wideKeys, modest, calm, conditions, laid).
  DERIVED. THE GIVEN ROWS OF THIS SEAT. 4 by the template 'for every input the law returns true; each argument reads behind the call as it read before'; 0 by the template 'total and deterministic' (their statements: YtfkokppncipgnaaGreatTotals.lean).
  GIVEN WITH THE SEED: the statements are not yours to turn. If you find one false, say at which input.
  Laid BY PROGRAM, IN A SANDBOX (cutbox-rows.mjs): the forced cells as the released guide's own fill.sh prints them over the translation 2a09bd717b10c43d… (all of the seat's roots in one cut). By AI agents, Wed Nov 11 2026. No macro, syntax, notation, axiom, sorry.
-/
import Derived.Test.YtfkokppncipgnaaGreatChecked
import GoSem.Claim
import GoSem.ClaimJoined
import GoSem.ClaimMapViews
import Derived.JoinedTies
import Derived.KernelRfl
namespace Go.Proofs.YtfkokppncipgnaaGreat
/- THE CELL 'sum', in the pinned program and in every row, IS THE sha256 OF THE DUMP (.gsa) THAT YtfkokppncipgnaaGreatProg.lean LOADS. Nothing in Lean hashes anything: it is a label: what it is worth is what the hold of that sum in a sandbox is worth. -/
noncomputable def Tryz.pinned : Pinned := { name := "ytfkokppncipgnaagreat", sum := "2a09bd717b10c43dbe6fe986ec71986651fc4cd7584b1d621b742db9dd51c71a", checked := Tryz.checked }
namespace Rows
def none {H : Type} : Left H := { results := [], args := [] }

/-- 'roundelaylaw11.CountPlays': WHATEVER THE INPUT: true; the input reads as it did. -/
def countPlaysSpec : ChangeSpec := { name := "countPlays", fn := fun _ => fun
  | [d1, d2, d3] => { results := [.lit (.bool true)], args := [d1, d2, d3] }
  | _ => none }
def countPlaysRow : OpenClaim := { program := "ytfkokppncipgnaagreat", sum := "2a09bd717b10c43dbe6fe986ec71986651fc4cd7584b1d621b742db9dd51c71a", func := "roundelay/roundelaylaw11.CountPlays", spec := "countPlays", unfollowed := true, recurses := true, apart := false }
def CountPlaysSaid : Prop := countPlaysRow.holds Tryz.pinned (OpenSpec.ofChange countPlaysSpec)

/-- ITS FALSE NEIGHBOUR: 'it returns false'. Refute it at one input. -/
def countPlaysWrong : ChangeSpec := { name := "countPlays", fn := fun _ => fun
  | [d1, d2, d3] => { results := [.lit (.bool false)], args := [d1, d2, d3] }
  | _ => none }
def CountPlaysWrongFalsely : Prop := countPlaysRow.holds Tryz.pinned (OpenSpec.ofChange countPlaysWrong)

/-- 'roundelaylaw14.PinPlays': WHATEVER THE INPUT: true; the input reads as it did. -/
def pinPlaysSpec : ChangeSpec := { name := "pinPlays", fn := fun _ => fun
  | [d1, d2, d3] => { results := [.lit (.bool true)], args := [d1, d2, d3] }
  | _ => none }
def pinPlaysRow : OpenClaim := { program := "ytfkokppncipgnaagreat", sum := "2a09bd717b10c43dbe6fe986ec71986651fc4cd7584b1d621b742db9dd51c71a", func := "roundelay/roundelaylaw14.PinPlays", spec := "pinPlays", unfollowed := true, recurses := true, apart := false }
def PinPlaysSaid : Prop := pinPlaysRow.holds Tryz.pinned (OpenSpec.ofChange pinPlaysSpec)

/-- ITS FALSE NEIGHBOUR: 'it returns false'. Refute it at one input. -/
def pinPlaysWrong : ChangeSpec := { name := "pinPlays", fn := fun _ => fun
  | [d1, d2, d3] => { results := [.lit (.bool false)], args := [d1, d2, d3] }
  | _ => none }
def PinPlaysWrongFalsely : Prop := pinPlaysRow.holds Tryz.pinned (OpenSpec.ofChange pinPlaysWrong)

/-- 'roundelaylaw15.SnapPlays': WHATEVER THE INPUT: true; the input reads as it did. -/
def snapPlaysSpec : ChangeSpec := { name := "snapPlays", fn := fun _ => fun
  | [d1, d2, d3] => { results := [.lit (.bool true)], args := [d1, d2, d3] }
  | _ => none }
def snapPlaysRow : OpenClaim := { program := "ytfkokppncipgnaagreat", sum := "2a09bd717b10c43dbe6fe986ec71986651fc4cd7584b1d621b742db9dd51c71a", func := "roundelay/roundelaylaw15.SnapPlays", spec := "snapPlays", unfollowed := true, recurses := true, apart := false }
def SnapPlaysSaid : Prop := snapPlaysRow.holds Tryz.pinned (OpenSpec.ofChange snapPlaysSpec)

/-- ITS FALSE NEIGHBOUR: 'it returns false'. Refute it at one input. -/
def snapPlaysWrong : ChangeSpec := { name := "snapPlays", fn := fun _ => fun
  | [d1, d2, d3] => { results := [.lit (.bool false)], args := [d1, d2, d3] }
  | _ => none }
def SnapPlaysWrongFalsely : Prop := snapPlaysRow.holds Tryz.pinned (OpenSpec.ofChange snapPlaysWrong)

/-- 'roundelaylaw16.MultiPlays': WHATEVER THE INPUT: true; the input reads as it did. -/
def multiPlaysSpec : ChangeSpec := { name := "multiPlays", fn := fun _ => fun
  | [d1, d2, d3] => { results := [.lit (.bool true)], args := [d1, d2, d3] }
  | _ => none }
def multiPlaysRow : OpenClaim := { program := "ytfkokppncipgnaagreat", sum := "2a09bd717b10c43dbe6fe986ec71986651fc4cd7584b1d621b742db9dd51c71a", func := "roundelay/roundelaylaw16.MultiPlays", spec := "multiPlays", unfollowed := true, recurses := true, apart := false }
def MultiPlaysSaid : Prop := multiPlaysRow.holds Tryz.pinned (OpenSpec.ofChange multiPlaysSpec)

/-- ITS FALSE NEIGHBOUR: 'it returns false'. Refute it at one input. -/
def multiPlaysWrong : ChangeSpec := { name := "multiPlays", fn := fun _ => fun
  | [d1, d2, d3] => { results := [.lit (.bool false)], args := [d1, d2, d3] }
  | _ => none }
def MultiPlaysWrongFalsely : Prop := multiPlaysRow.holds Tryz.pinned (OpenSpec.ofChange multiPlaysWrong)

/- THE SECOND FORM. 'bulk': how many values and letters a reading holds, each counted each time it is reached (what is shared counts as often as it is met; a slice's spare places count too). A statement '..UptoSaid' is the law's where the arguments, and the package variables that the reading takes, are together of bulk at most 1048576: NARROWER than '..Said'. Prove '..Said' where nothing that the law and all that it calls make is longer than what came in: it says more and counts as full. Else prove '..UptoSaid'. A law counts once. -/
mutual
def uptoBulk {H : Type} : DataW H → Nat
  | .lit (.string bytes) => bytes.length + 1
  | .lit _ => 1
  | .nil => 1
  | .ptr d => uptoBulk d + 1
  | .slice elems spare => uptoBulkAll elems + uptoBulkAll spare + 1
  | .agg parts => uptoBulkAll parts + 1
  | .iface _ d => uptoBulk d + 1
  | .map entries => uptoBulkEntries entries + 1
  | .held _ => 1
def uptoBulkAll {H : Type} : List (DataW H) → Nat
  | [] => 0
  | d :: r => uptoBulk d + uptoBulkAll r
def uptoBulkEntries {H : Type} : List (Lit × DataW H) → Nat
  | [] => 0
  | x :: r => uptoBulkEntry x + uptoBulkEntries r
def uptoBulkEntry {H : Type} : Lit × DataW H → Nat
  | (.string bytes, d) => bytes.length + uptoBulk d + 1
  | (_, d) => uptoBulk d + 1
 end
def uptoSmall : (H : Type) → List (DataW H) → Bool := fun _ ds => decide (uptoBulkAll ds ≤ 1048576)
def OpenSpec.upto (s : _root_.Go.ChangeSpec) : _root_.Go.OpenSpec := { _root_.Go.OpenSpec.ofChange s with cond := some uptoSmall }

/-- 'roundelaylaw11.CountPlays', WHERE WHAT IT READS IS OF BULK AT MOST 1048576: true; the input reads as it did. -/
def countPlaysUptoRow : OpenClaim := { program := "ytfkokppncipgnaagreat", sum := "2a09bd717b10c43dbe6fe986ec71986651fc4cd7584b1d621b742db9dd51c71a", func := "roundelay/roundelaylaw11.CountPlays", spec := "countPlays", unfollowed := true, recurses := true, apart := false, narrowed := true }
def CountPlaysUptoSaid : Prop := countPlaysUptoRow.holds Tryz.pinned (OpenSpec.upto countPlaysSpec)

/-- 'roundelaylaw14.PinPlays', WHERE WHAT IT READS IS OF BULK AT MOST 1048576: true; the input reads as it did. -/
def pinPlaysUptoRow : OpenClaim := { program := "ytfkokppncipgnaagreat", sum := "2a09bd717b10c43dbe6fe986ec71986651fc4cd7584b1d621b742db9dd51c71a", func := "roundelay/roundelaylaw14.PinPlays", spec := "pinPlays", unfollowed := true, recurses := true, apart := false, narrowed := true }
def PinPlaysUptoSaid : Prop := pinPlaysUptoRow.holds Tryz.pinned (OpenSpec.upto pinPlaysSpec)

/-- 'roundelaylaw15.SnapPlays', WHERE WHAT IT READS IS OF BULK AT MOST 1048576: true; the input reads as it did. -/
def snapPlaysUptoRow : OpenClaim := { program := "ytfkokppncipgnaagreat", sum := "2a09bd717b10c43dbe6fe986ec71986651fc4cd7584b1d621b742db9dd51c71a", func := "roundelay/roundelaylaw15.SnapPlays", spec := "snapPlays", unfollowed := true, recurses := true, apart := false, narrowed := true }
def SnapPlaysUptoSaid : Prop := snapPlaysUptoRow.holds Tryz.pinned (OpenSpec.upto snapPlaysSpec)

/-- 'roundelaylaw16.MultiPlays', WHERE WHAT IT READS IS OF BULK AT MOST 1048576: true; the input reads as it did. -/
def multiPlaysUptoRow : OpenClaim := { program := "ytfkokppncipgnaagreat", sum := "2a09bd717b10c43dbe6fe986ec71986651fc4cd7584b1d621b742db9dd51c71a", func := "roundelay/roundelaylaw16.MultiPlays", spec := "multiPlays", unfollowed := true, recurses := true, apart := false, narrowed := true }
def MultiPlaysUptoSaid : Prop := multiPlaysUptoRow.holds Tryz.pinned (OpenSpec.upto multiPlaysSpec)

end Rows
end Go.Proofs.YtfkokppncipgnaaGreat
