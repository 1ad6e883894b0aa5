/-
  No cell of these rows narrows 'for every input' (looked for: loops, veiled, ifaces, maps, wideKeys, modest, calm, conditions, laid).
  DERIVED. THE GIVEN ROWS OF THIS SEAT. 8 by the template 'for every input the law returns true; each argument reads behind the call as it read before'; 0 by the template 'total and deterministic' (their statements: YteffgpcjfnjlkaaGreatTotals.lean).
  GIVEN WITH THE SEED: the statements are not yours to turn. If you find one false, say at which input.
  Laid BY PROGRAM, IN A SANDBOX (cutbox-rows.mjs): the forced cells as the released guide's own fill.sh prints them over the translation 214112c4b2b079e5… (all of the seat's roots in one cut). By AI agents, Wed Nov 11 2026. No macro, syntax, notation, axiom, sorry.
-/
import Derived.Test.YteffgpcjfnjlkaaGreatChecked
import GoSem.Claim
import GoSem.ClaimJoined
import GoSem.ClaimMapViews
import Derived.JoinedTies
import Derived.KernelRfl
namespace Go.Proofs.YteffgpcjfnjlkaaGreat
/- THE CELL 'sum', in the pinned program and in every row, IS THE sha256 OF THE DUMP (.gsa) THAT YteffgpcjfnjlkaaGreatProg.lean LOADS. Nothing in Lean hashes anything: it is a label: what it is worth is what the hold of that sum in a sandbox is worth. -/
noncomputable def Tryz.pinned : Pinned := { name := "yteffgpcjfnjlkaagreat", sum := "214112c4b2b079e52ac2d9676cce35f02d9bb8562684f161cad0153dc040f1c4", checked := Tryz.checked }
namespace Rows
def none {H : Type} : Left H := { results := [], args := [] }

/-- 'roundelaylaw06.LoomCells': WHATEVER THE INPUT: true; the input reads as it did. -/
def loomCellsSpec : ChangeSpec := { name := "loomCells", fn := fun _ => fun
  | [d1, d2, d3] => { results := [.lit (.bool true)], args := [d1, d2, d3] }
  | _ => none }
def loomCellsRow : OpenClaim := { program := "yteffgpcjfnjlkaagreat", sum := "214112c4b2b079e52ac2d9676cce35f02d9bb8562684f161cad0153dc040f1c4", func := "roundelay/roundelaylaw06.LoomCells", spec := "loomCells", unfollowed := true, recurses := true, apart := false }
def LoomCellsSaid : Prop := loomCellsRow.holds Tryz.pinned (OpenSpec.ofChange loomCellsSpec)

/-- ITS FALSE NEIGHBOUR: 'it returns false'. Refute it at one input. -/
def loomCellsWrong : ChangeSpec := { name := "loomCells", fn := fun _ => fun
  | [d1, d2, d3] => { results := [.lit (.bool false)], args := [d1, d2, d3] }
  | _ => none }
def LoomCellsWrongFalsely : Prop := loomCellsRow.holds Tryz.pinned (OpenSpec.ofChange loomCellsWrong)

/-- 'roundelaylaw07.ConsPlays': WHATEVER THE INPUT: true; the input reads as it did. -/
def consPlaysSpec : ChangeSpec := { name := "consPlays", fn := fun _ => fun
  | [d1, d2, d3] => { results := [.lit (.bool true)], args := [d1, d2, d3] }
  | _ => none }
def consPlaysRow : OpenClaim := { program := "yteffgpcjfnjlkaagreat", sum := "214112c4b2b079e52ac2d9676cce35f02d9bb8562684f161cad0153dc040f1c4", func := "roundelay/roundelaylaw07.ConsPlays", spec := "consPlays", unfollowed := true, recurses := true, apart := false }
def ConsPlaysSaid : Prop := consPlaysRow.holds Tryz.pinned (OpenSpec.ofChange consPlaysSpec)

/-- ITS FALSE NEIGHBOUR: 'it returns false'. Refute it at one input. -/
def consPlaysWrong : ChangeSpec := { name := "consPlays", fn := fun _ => fun
  | [d1, d2, d3] => { results := [.lit (.bool false)], args := [d1, d2, d3] }
  | _ => none }
def ConsPlaysWrongFalsely : Prop := consPlaysRow.holds Tryz.pinned (OpenSpec.ofChange consPlaysWrong)

/-- 'roundelaylaw08.TallyPlays': WHATEVER THE INPUT: true; the input reads as it did. -/
def tallyPlaysSpec : ChangeSpec := { name := "tallyPlays", fn := fun _ => fun
  | [d1, d2, d3] => { results := [.lit (.bool true)], args := [d1, d2, d3] }
  | _ => none }
def tallyPlaysRow : OpenClaim := { program := "yteffgpcjfnjlkaagreat", sum := "214112c4b2b079e52ac2d9676cce35f02d9bb8562684f161cad0153dc040f1c4", func := "roundelay/roundelaylaw08.TallyPlays", spec := "tallyPlays", unfollowed := true, recurses := true, apart := false }
def TallyPlaysSaid : Prop := tallyPlaysRow.holds Tryz.pinned (OpenSpec.ofChange tallyPlaysSpec)

/-- ITS FALSE NEIGHBOUR: 'it returns false'. Refute it at one input. -/
def tallyPlaysWrong : ChangeSpec := { name := "tallyPlays", fn := fun _ => fun
  | [d1, d2, d3] => { results := [.lit (.bool false)], args := [d1, d2, d3] }
  | _ => none }
def TallyPlaysWrongFalsely : Prop := tallyPlaysRow.holds Tryz.pinned (OpenSpec.ofChange tallyPlaysWrong)

/-- 'roundelaylaw09.AdderPlays': WHATEVER THE INPUT: true; the input reads as it did. -/
def adderPlaysSpec : ChangeSpec := { name := "adderPlays", fn := fun _ => fun
  | [d1, d2, d3] => { results := [.lit (.bool true)], args := [d1, d2, d3] }
  | _ => none }
def adderPlaysRow : OpenClaim := { program := "yteffgpcjfnjlkaagreat", sum := "214112c4b2b079e52ac2d9676cce35f02d9bb8562684f161cad0153dc040f1c4", func := "roundelay/roundelaylaw09.AdderPlays", spec := "adderPlays", unfollowed := true, recurses := true, apart := false }
def AdderPlaysSaid : Prop := adderPlaysRow.holds Tryz.pinned (OpenSpec.ofChange adderPlaysSpec)

/-- ITS FALSE NEIGHBOUR: 'it returns false'. Refute it at one input. -/
def adderPlaysWrong : ChangeSpec := { name := "adderPlays", fn := fun _ => fun
  | [d1, d2, d3] => { results := [.lit (.bool false)], args := [d1, d2, d3] }
  | _ => none }
def AdderPlaysWrongFalsely : Prop := adderPlaysRow.holds Tryz.pinned (OpenSpec.ofChange adderPlaysWrong)

/-- 'roundelaylaw10.MaxPlays': WHATEVER THE INPUT: true; the input reads as it did. -/
def maxPlaysSpec : ChangeSpec := { name := "maxPlays", fn := fun _ => fun
  | [d1, d2, d3] => { results := [.lit (.bool true)], args := [d1, d2, d3] }
  | _ => none }
def maxPlaysRow : OpenClaim := { program := "yteffgpcjfnjlkaagreat", sum := "214112c4b2b079e52ac2d9676cce35f02d9bb8562684f161cad0153dc040f1c4", func := "roundelay/roundelaylaw10.MaxPlays", spec := "maxPlays", unfollowed := true, recurses := true, apart := false }
def MaxPlaysSaid : Prop := maxPlaysRow.holds Tryz.pinned (OpenSpec.ofChange maxPlaysSpec)

/-- ITS FALSE NEIGHBOUR: 'it returns false'. Refute it at one input. -/
def maxPlaysWrong : ChangeSpec := { name := "maxPlays", fn := fun _ => fun
  | [d1, d2, d3] => { results := [.lit (.bool false)], args := [d1, d2, d3] }
  | _ => none }
def MaxPlaysWrongFalsely : Prop := maxPlaysRow.holds Tryz.pinned (OpenSpec.ofChange maxPlaysWrong)

/-- 'roundelaylaw11.CountPlays': WHATEVER THE INPUT: true; the input reads as it did. -/
def countPlaysSpec : ChangeSpec := { name := "countPlays", fn := fun _ => fun
  | [d1, d2, d3] => { results := [.lit (.bool true)], args := [d1, d2, d3] }
  | _ => none }
def countPlaysRow : OpenClaim := { program := "yteffgpcjfnjlkaagreat", sum := "214112c4b2b079e52ac2d9676cce35f02d9bb8562684f161cad0153dc040f1c4", func := "roundelay/roundelaylaw11.CountPlays", spec := "countPlays", unfollowed := true, recurses := true, apart := false }
def CountPlaysSaid : Prop := countPlaysRow.holds Tryz.pinned (OpenSpec.ofChange countPlaysSpec)

/-- ITS FALSE NEIGHBOUR: 'it returns false'. Refute it at one input. -/
def countPlaysWrong : ChangeSpec := { name := "countPlays", fn := fun _ => fun
  | [d1, d2, d3] => { results := [.lit (.bool false)], args := [d1, d2, d3] }
  | _ => none }
def CountPlaysWrongFalsely : Prop := countPlaysRow.holds Tryz.pinned (OpenSpec.ofChange countPlaysWrong)

/-- 'roundelaylaw12.DoorPlays': WHATEVER THE INPUT: true; the input reads as it did. -/
def doorPlaysSpec : ChangeSpec := { name := "doorPlays", fn := fun _ => fun
  | [d1, d2, d3] => { results := [.lit (.bool true)], args := [d1, d2, d3] }
  | _ => none }
def doorPlaysRow : OpenClaim := { program := "yteffgpcjfnjlkaagreat", sum := "214112c4b2b079e52ac2d9676cce35f02d9bb8562684f161cad0153dc040f1c4", func := "roundelay/roundelaylaw12.DoorPlays", spec := "doorPlays", unfollowed := true, recurses := true, apart := false }
def DoorPlaysSaid : Prop := doorPlaysRow.holds Tryz.pinned (OpenSpec.ofChange doorPlaysSpec)

/-- ITS FALSE NEIGHBOUR: 'it returns false'. Refute it at one input. -/
def doorPlaysWrong : ChangeSpec := { name := "doorPlays", fn := fun _ => fun
  | [d1, d2, d3] => { results := [.lit (.bool false)], args := [d1, d2, d3] }
  | _ => none }
def DoorPlaysWrongFalsely : Prop := doorPlaysRow.holds Tryz.pinned (OpenSpec.ofChange doorPlaysWrong)

/-- 'roundelaylaw13.PoolPlays': WHATEVER THE INPUT: true; the input reads as it did. -/
def poolPlaysSpec : ChangeSpec := { name := "poolPlays", fn := fun _ => fun
  | [d1, d2, d3] => { results := [.lit (.bool true)], args := [d1, d2, d3] }
  | _ => none }
def poolPlaysRow : OpenClaim := { program := "yteffgpcjfnjlkaagreat", sum := "214112c4b2b079e52ac2d9676cce35f02d9bb8562684f161cad0153dc040f1c4", func := "roundelay/roundelaylaw13.PoolPlays", spec := "poolPlays", unfollowed := true, recurses := true, apart := false }
def PoolPlaysSaid : Prop := poolPlaysRow.holds Tryz.pinned (OpenSpec.ofChange poolPlaysSpec)

/-- ITS FALSE NEIGHBOUR: 'it returns false'. Refute it at one input. -/
def poolPlaysWrong : ChangeSpec := { name := "poolPlays", fn := fun _ => fun
  | [d1, d2, d3] => { results := [.lit (.bool false)], args := [d1, d2, d3] }
  | _ => none }
def PoolPlaysWrongFalsely : Prop := poolPlaysRow.holds Tryz.pinned (OpenSpec.ofChange poolPlaysWrong)

/- THE SECOND FORM. 'bulk': how many values and letters a reading holds, each counted each time it is reached (what is shared counts as often as it is met; a slice's spare places count too). A statement '..UptoSaid' is the law's where the arguments, and the package variables that the reading takes, are together of bulk at most 1048576: NARROWER than '..Said'. Prove '..Said' where nothing that the law and all that it calls make is longer than what came in: it says more and counts as full. Else prove '..UptoSaid'. A law counts once. -/
mutual
def uptoBulk {H : Type} : DataW H → Nat
  | .lit (.string bytes) => bytes.length + 1
  | .lit _ => 1
  | .nil => 1
  | .ptr d => uptoBulk d + 1
  | .slice elems spare => uptoBulkAll elems + uptoBulkAll spare + 1
  | .agg parts => uptoBulkAll parts + 1
  | .iface _ d => uptoBulk d + 1
  | .map entries => uptoBulkEntries entries + 1
  | .held _ => 1
def uptoBulkAll {H : Type} : List (DataW H) → Nat
  | [] => 0
  | d :: r => uptoBulk d + uptoBulkAll r
def uptoBulkEntries {H : Type} : List (Lit × DataW H) → Nat
  | [] => 0
  | x :: r => uptoBulkEntry x + uptoBulkEntries r
def uptoBulkEntry {H : Type} : Lit × DataW H → Nat
  | (.string bytes, d) => bytes.length + uptoBulk d + 1
  | (_, d) => uptoBulk d + 1
 end
def uptoSmall : (H : Type) → List (DataW H) → Bool := fun _ ds => decide (uptoBulkAll ds ≤ 1048576)
def OpenSpec.upto (s : _root_.Go.ChangeSpec) : _root_.Go.OpenSpec := { _root_.Go.OpenSpec.ofChange s with cond := some uptoSmall }

/-- 'roundelaylaw06.LoomCells', WHERE WHAT IT READS IS OF BULK AT MOST 1048576: true; the input reads as it did. -/
def loomCellsUptoRow : OpenClaim := { program := "yteffgpcjfnjlkaagreat", sum := "214112c4b2b079e52ac2d9676cce35f02d9bb8562684f161cad0153dc040f1c4", func := "roundelay/roundelaylaw06.LoomCells", spec := "loomCells", unfollowed := true, recurses := true, apart := false, narrowed := true }
def LoomCellsUptoSaid : Prop := loomCellsUptoRow.holds Tryz.pinned (OpenSpec.upto loomCellsSpec)

/-- 'roundelaylaw07.ConsPlays', WHERE WHAT IT READS IS OF BULK AT MOST 1048576: true; the input reads as it did. -/
def consPlaysUptoRow : OpenClaim := { program := "yteffgpcjfnjlkaagreat", sum := "214112c4b2b079e52ac2d9676cce35f02d9bb8562684f161cad0153dc040f1c4", func := "roundelay/roundelaylaw07.ConsPlays", spec := "consPlays", unfollowed := true, recurses := true, apart := false, narrowed := true }
def ConsPlaysUptoSaid : Prop := consPlaysUptoRow.holds Tryz.pinned (OpenSpec.upto consPlaysSpec)

/-- 'roundelaylaw08.TallyPlays', WHERE WHAT IT READS IS OF BULK AT MOST 1048576: true; the input reads as it did. -/
def tallyPlaysUptoRow : OpenClaim := { program := "yteffgpcjfnjlkaagreat", sum := "214112c4b2b079e52ac2d9676cce35f02d9bb8562684f161cad0153dc040f1c4", func := "roundelay/roundelaylaw08.TallyPlays", spec := "tallyPlays", unfollowed := true, recurses := true, apart := false, narrowed := true }
def TallyPlaysUptoSaid : Prop := tallyPlaysUptoRow.holds Tryz.pinned (OpenSpec.upto tallyPlaysSpec)

/-- 'roundelaylaw09.AdderPlays', WHERE WHAT IT READS IS OF BULK AT MOST 1048576: true; the input reads as it did. -/
def adderPlaysUptoRow : OpenClaim := { program := "yteffgpcjfnjlkaagreat", sum := "214112c4b2b079e52ac2d9676cce35f02d9bb8562684f161cad0153dc040f1c4", func := "roundelay/roundelaylaw09.AdderPlays", spec := "adderPlays", unfollowed := true, recurses := true, apart := false, narrowed := true }
def AdderPlaysUptoSaid : Prop := adderPlaysUptoRow.holds Tryz.pinned (OpenSpec.upto adderPlaysSpec)

/-- 'roundelaylaw10.MaxPlays', WHERE WHAT IT READS IS OF BULK AT MOST 1048576: true; the input reads as it did. -/
def maxPlaysUptoRow : OpenClaim := { program := "yteffgpcjfnjlkaagreat", sum := "214112c4b2b079e52ac2d9676cce35f02d9bb8562684f161cad0153dc040f1c4", func := "roundelay/roundelaylaw10.MaxPlays", spec := "maxPlays", unfollowed := true, recurses := true, apart := false, narrowed := true }
def MaxPlaysUptoSaid : Prop := maxPlaysUptoRow.holds Tryz.pinned (OpenSpec.upto maxPlaysSpec)

/-- 'roundelaylaw11.CountPlays', WHERE WHAT IT READS IS OF BULK AT MOST 1048576: true; the input reads as it did. -/
def countPlaysUptoRow : OpenClaim := { program := "yteffgpcjfnjlkaagreat", sum := "214112c4b2b079e52ac2d9676cce35f02d9bb8562684f161cad0153dc040f1c4", func := "roundelay/roundelaylaw11.CountPlays", spec := "countPlays", unfollowed := true, recurses := true, apart := false, narrowed := true }
def CountPlaysUptoSaid : Prop := countPlaysUptoRow.holds Tryz.pinned (OpenSpec.upto countPlaysSpec)

/-- 'roundelaylaw12.DoorPlays', WHERE WHAT IT READS IS OF BULK AT MOST 1048576: true; the input reads as it did. -/
def doorPlaysUptoRow : OpenClaim := { program := "yteffgpcjfnjlkaagreat", sum := "214112c4b2b079e52ac2d9676cce35f02d9bb8562684f161cad0153dc040f1c4", func := "roundelay/roundelaylaw12.DoorPlays", spec := "doorPlays", unfollowed := true, recurses := true, apart := false, narrowed := true }
def DoorPlaysUptoSaid : Prop := doorPlaysUptoRow.holds Tryz.pinned (OpenSpec.upto doorPlaysSpec)

/-- 'roundelaylaw13.PoolPlays', WHERE WHAT IT READS IS OF BULK AT MOST 1048576: true; the input reads as it did. -/
def poolPlaysUptoRow : OpenClaim := { program := "yteffgpcjfnjlkaagreat", sum := "214112c4b2b079e52ac2d9676cce35f02d9bb8562684f161cad0153dc040f1c4", func := "roundelay/roundelaylaw13.PoolPlays", spec := "poolPlays", unfollowed := true, recurses := true, apart := false, narrowed := true }
def PoolPlaysUptoSaid : Prop := poolPlaysUptoRow.holds Tryz.pinned (OpenSpec.upto poolPlaysSpec)

end Rows
end Go.Proofs.YteffgpcjfnjlkaaGreat
