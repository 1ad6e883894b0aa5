/-
  No cell of these rows narrows 'for every input' (looked for: loops, veiled, ifaces, maps, wideKeys, modest, calm, conditions, laid).
  DERIVED. THE GIVEN ROWS OF THIS SEAT. 12 by the template 'for every input the law returns true; each argument reads behind the call as it read before'; 0 by the template 'total and deterministic' (their statements: YtajlceknahngkaaTotals.lean).
  GIVEN WITH THE SEED: the statements are not yours to turn. If you find one false, say at which input.
  Laid BY PROGRAM, IN A SANDBOX (cutbox-rows.mjs): the forced cells as the released guide's own fill.sh prints them over the translation 922f83883144f749… (all of the seat's roots in one cut). By AI agents, Wed Nov 11 2026. No macro, syntax, notation, axiom, sorry.
-/
import Derived.Test.YtajlceknahngkaaChecked
import GoSem.Claim
import GoSem.ClaimJoined
import GoSem.ClaimMapViews
import Derived.JoinedTies
import Derived.KernelRfl
namespace Go.Proofs.Ytajlceknahngkaa
/- THE CELL 'sum', in the pinned program and in every row, IS THE sha256 OF THE DUMP (.gsa) THAT YtajlceknahngkaaProg.lean LOADS. Nothing in Lean hashes anything: it is a label: what it is worth is what the hold of that sum in a sandbox is worth. -/
noncomputable def Try.pinned : Pinned := { name := "ytajlceknahngkaa", sum := "922f83883144f74912de9947080dabdd7d4303a052d022e077ba8b3c7cd434bd", checked := Try.checked }
namespace Rows
def none {H : Type} : Left H := { results := [], args := [] }

/-- 'roundelaylaw01.WordGets': WHATEVER THE INPUT: true; the input reads as it did. -/
def wordGetsSpec : ChangeSpec := { name := "wordGets", fn := fun _ => fun
  | [d1, d2, d3] => { results := [.lit (.bool true)], args := [d1, d2, d3] }
  | _ => none }
def wordGetsRow : OpenClaim := { program := "ytajlceknahngkaa", sum := "922f83883144f74912de9947080dabdd7d4303a052d022e077ba8b3c7cd434bd", func := "roundelay/roundelaylaw01.WordGets", spec := "wordGets", apart := false }
def WordGetsSaid : Prop := wordGetsRow.holds Try.pinned (OpenSpec.ofChange wordGetsSpec)

/-- ITS FALSE NEIGHBOUR: 'it returns false'. Refute it at one input. -/
def wordGetsWrong : ChangeSpec := { name := "wordGets", fn := fun _ => fun
  | [d1, d2, d3] => { results := [.lit (.bool false)], args := [d1, d2, d3] }
  | _ => none }
def WordGetsWrongFalsely : Prop := wordGetsRow.holds Try.pinned (OpenSpec.ofChange wordGetsWrong)

/-- 'roundelaylaw01.WordPuts': WHATEVER THE INPUT: true; the input reads as it did. -/
def wordPutsSpec : ChangeSpec := { name := "wordPuts", fn := fun _ => fun
  | [d1, d2, d3] => { results := [.lit (.bool true)], args := [d1, d2, d3] }
  | _ => none }
def wordPutsRow : OpenClaim := { program := "ytajlceknahngkaa", sum := "922f83883144f74912de9947080dabdd7d4303a052d022e077ba8b3c7cd434bd", func := "roundelay/roundelaylaw01.WordPuts", spec := "wordPuts", apart := false }
def WordPutsSaid : Prop := wordPutsRow.holds Try.pinned (OpenSpec.ofChange wordPutsSpec)

/-- ITS FALSE NEIGHBOUR: 'it returns false'. Refute it at one input. -/
def wordPutsWrong : ChangeSpec := { name := "wordPuts", fn := fun _ => fun
  | [d1, d2, d3] => { results := [.lit (.bool false)], args := [d1, d2, d3] }
  | _ => none }
def WordPutsWrongFalsely : Prop := wordPutsRow.holds Try.pinned (OpenSpec.ofChange wordPutsWrong)

/-- 'roundelaylaw01.WordPacks': WHATEVER THE INPUT: true; the input reads as it did. -/
def wordPacksSpec : ChangeSpec := { name := "wordPacks", fn := fun _ => fun
  | [d] => { results := [.lit (.bool true)], args := [d] }
  | _ => none }
def wordPacksRow : OpenClaim := { program := "ytajlceknahngkaa", sum := "922f83883144f74912de9947080dabdd7d4303a052d022e077ba8b3c7cd434bd", func := "roundelay/roundelaylaw01.WordPacks", spec := "wordPacks", apart := false }
def WordPacksSaid : Prop := wordPacksRow.holds Try.pinned (OpenSpec.ofChange wordPacksSpec)

/-- ITS FALSE NEIGHBOUR: 'it returns false'. Refute it at one input. -/
def wordPacksWrong : ChangeSpec := { name := "wordPacks", fn := fun _ => fun
  | [d] => { results := [.lit (.bool false)], args := [d] }
  | _ => none }
def WordPacksWrongFalsely : Prop := wordPacksRow.holds Try.pinned (OpenSpec.ofChange wordPacksWrong)

/-- 'roundelaylaw01.WordBack': WHATEVER THE INPUT: true; the input reads as it did. -/
def wordBackSpec : ChangeSpec := { name := "wordBack", fn := fun _ => fun
  | [d1, d2] => { results := [.lit (.bool true)], args := [d1, d2] }
  | _ => none }
def wordBackRow : OpenClaim := { program := "ytajlceknahngkaa", sum := "922f83883144f74912de9947080dabdd7d4303a052d022e077ba8b3c7cd434bd", func := "roundelay/roundelaylaw01.WordBack", spec := "wordBack", apart := false }
def WordBackSaid : Prop := wordBackRow.holds Try.pinned (OpenSpec.ofChange wordBackSpec)

/-- ITS FALSE NEIGHBOUR: 'it returns false'. Refute it at one input. -/
def wordBackWrong : ChangeSpec := { name := "wordBack", fn := fun _ => fun
  | [d1, d2] => { results := [.lit (.bool false)], args := [d1, d2] }
  | _ => none }
def WordBackWrongFalsely : Prop := wordBackRow.holds Try.pinned (OpenSpec.ofChange wordBackWrong)

/-- 'roundelaylaw20.NodePlaces': WHATEVER THE INPUT: true; the input reads as it did. -/
def nodePlacesSpec : ChangeSpec := { name := "nodePlaces", fn := fun _ => fun
  | [d1, d2, d3] => { results := [.lit (.bool true)], args := [d1, d2, d3] }
  | _ => none }
def nodePlacesRow : OpenClaim := { program := "ytajlceknahngkaa", sum := "922f83883144f74912de9947080dabdd7d4303a052d022e077ba8b3c7cd434bd", func := "roundelay/roundelaylaw20.NodePlaces", spec := "nodePlaces", apart := false }
def NodePlacesSaid : Prop := nodePlacesRow.holds Try.pinned (OpenSpec.ofChange nodePlacesSpec)

/-- ITS FALSE NEIGHBOUR: 'it returns false'. Refute it at one input. -/
def nodePlacesWrong : ChangeSpec := { name := "nodePlaces", fn := fun _ => fun
  | [d1, d2, d3] => { results := [.lit (.bool false)], args := [d1, d2, d3] }
  | _ => none }
def NodePlacesWrongFalsely : Prop := nodePlacesRow.holds Try.pinned (OpenSpec.ofChange nodePlacesWrong)

/-- 'roundelaylaw20.NodeApart': WHATEVER THE INPUT: true; the input reads as it did. -/
def nodeApartSpec : ChangeSpec := { name := "nodeApart", fn := fun _ => fun
  | [d1, d2, d3] => { results := [.lit (.bool true)], args := [d1, d2, d3] }
  | _ => none }
def nodeApartRow : OpenClaim := { program := "ytajlceknahngkaa", sum := "922f83883144f74912de9947080dabdd7d4303a052d022e077ba8b3c7cd434bd", func := "roundelay/roundelaylaw20.NodeApart", spec := "nodeApart", apart := false }
def NodeApartSaid : Prop := nodeApartRow.holds Try.pinned (OpenSpec.ofChange nodeApartSpec)

/-- ITS FALSE NEIGHBOUR: 'it returns false'. Refute it at one input. -/
def nodeApartWrong : ChangeSpec := { name := "nodeApart", fn := fun _ => fun
  | [d1, d2, d3] => { results := [.lit (.bool false)], args := [d1, d2, d3] }
  | _ => none }
def NodeApartWrongFalsely : Prop := nodeApartRow.holds Try.pinned (OpenSpec.ofChange nodeApartWrong)

/-- 'roundelaylaw20.NodeWords': WHATEVER THE INPUT: true; the input reads as it did. -/
def nodeWordsSpec : ChangeSpec := { name := "nodeWords", fn := fun _ => fun
  | [d1, d2, d3] => { results := [.lit (.bool true)], args := [d1, d2, d3] }
  | _ => none }
def nodeWordsRow : OpenClaim := { program := "ytajlceknahngkaa", sum := "922f83883144f74912de9947080dabdd7d4303a052d022e077ba8b3c7cd434bd", func := "roundelay/roundelaylaw20.NodeWords", spec := "nodeWords", apart := false }
def NodeWordsSaid : Prop := nodeWordsRow.holds Try.pinned (OpenSpec.ofChange nodeWordsSpec)

/-- ITS FALSE NEIGHBOUR: 'it returns false'. Refute it at one input. -/
def nodeWordsWrong : ChangeSpec := { name := "nodeWords", fn := fun _ => fun
  | [d1, d2, d3] => { results := [.lit (.bool false)], args := [d1, d2, d3] }
  | _ => none }
def NodeWordsWrongFalsely : Prop := nodeWordsRow.holds Try.pinned (OpenSpec.ofChange nodeWordsWrong)

/-- 'roundelaylaw05.PickLines': WHATEVER THE INPUT: true; the input reads as it did. -/
def pickLinesSpec : ChangeSpec := { name := "pickLines", fn := fun _ => fun
  | [d1, d2, d3] => { results := [.lit (.bool true)], args := [d1, d2, d3] }
  | _ => none }
def pickLinesRow : OpenClaim := { program := "ytajlceknahngkaa", sum := "922f83883144f74912de9947080dabdd7d4303a052d022e077ba8b3c7cd434bd", func := "roundelay/roundelaylaw05.PickLines", spec := "pickLines", apart := false }
def PickLinesSaid : Prop := pickLinesRow.holds Try.pinned (OpenSpec.ofChange pickLinesSpec)

/-- ITS FALSE NEIGHBOUR: 'it returns false'. Refute it at one input. -/
def pickLinesWrong : ChangeSpec := { name := "pickLines", fn := fun _ => fun
  | [d1, d2, d3] => { results := [.lit (.bool false)], args := [d1, d2, d3] }
  | _ => none }
def PickLinesWrongFalsely : Prop := pickLinesRow.holds Try.pinned (OpenSpec.ofChange pickLinesWrong)

/-- 'roundelaylaw05.PickTurns': WHATEVER THE INPUT: true; the input reads as it did. -/
def pickTurnsSpec : ChangeSpec := { name := "pickTurns", fn := fun _ => fun
  | [d1, d2, d3] => { results := [.lit (.bool true)], args := [d1, d2, d3] }
  | _ => none }
def pickTurnsRow : OpenClaim := { program := "ytajlceknahngkaa", sum := "922f83883144f74912de9947080dabdd7d4303a052d022e077ba8b3c7cd434bd", func := "roundelay/roundelaylaw05.PickTurns", spec := "pickTurns", apart := false }
def PickTurnsSaid : Prop := pickTurnsRow.holds Try.pinned (OpenSpec.ofChange pickTurnsSpec)

/-- ITS FALSE NEIGHBOUR: 'it returns false'. Refute it at one input. -/
def pickTurnsWrong : ChangeSpec := { name := "pickTurns", fn := fun _ => fun
  | [d1, d2, d3] => { results := [.lit (.bool false)], args := [d1, d2, d3] }
  | _ => none }
def PickTurnsWrongFalsely : Prop := pickTurnsRow.holds Try.pinned (OpenSpec.ofChange pickTurnsWrong)

/-- 'roundelaylaw05.PickRows': WHATEVER THE INPUT: true; the input reads as it did. -/
def pickRowsSpec : ChangeSpec := { name := "pickRows", fn := fun _ => fun
  | [d1, d2, d3] => { results := [.lit (.bool true)], args := [d1, d2, d3] }
  | _ => none }
def pickRowsRow : OpenClaim := { program := "ytajlceknahngkaa", sum := "922f83883144f74912de9947080dabdd7d4303a052d022e077ba8b3c7cd434bd", func := "roundelay/roundelaylaw05.PickRows", spec := "pickRows", apart := false }
def PickRowsSaid : Prop := pickRowsRow.holds Try.pinned (OpenSpec.ofChange pickRowsSpec)

/-- ITS FALSE NEIGHBOUR: 'it returns false'. Refute it at one input. -/
def pickRowsWrong : ChangeSpec := { name := "pickRows", fn := fun _ => fun
  | [d1, d2, d3] => { results := [.lit (.bool false)], args := [d1, d2, d3] }
  | _ => none }
def PickRowsWrongFalsely : Prop := pickRowsRow.holds Try.pinned (OpenSpec.ofChange pickRowsWrong)

/-- 'roundelaylaw19.DescPacks': WHATEVER THE INPUT: true; the input reads as it did. -/
def descPacksSpec : ChangeSpec := { name := "descPacks", fn := fun _ => fun
  | [d1, d2] => { results := [.lit (.bool true)], args := [d1, d2] }
  | _ => none }
def descPacksRow : OpenClaim := { program := "ytajlceknahngkaa", sum := "922f83883144f74912de9947080dabdd7d4303a052d022e077ba8b3c7cd434bd", func := "roundelay/roundelaylaw19.DescPacks", spec := "descPacks", apart := false }
def DescPacksSaid : Prop := descPacksRow.holds Try.pinned (OpenSpec.ofChange descPacksSpec)

/-- ITS FALSE NEIGHBOUR: 'it returns false'. Refute it at one input. -/
def descPacksWrong : ChangeSpec := { name := "descPacks", fn := fun _ => fun
  | [d1, d2] => { results := [.lit (.bool false)], args := [d1, d2] }
  | _ => none }
def DescPacksWrongFalsely : Prop := descPacksRow.holds Try.pinned (OpenSpec.ofChange descPacksWrong)

/-- 'roundelaylaw19.DescFinishes': WHATEVER THE INPUT: true; the input reads as it did. -/
def descFinishesSpec : ChangeSpec := { name := "descFinishes", fn := fun _ => fun
  | [d1, d2] => { results := [.lit (.bool true)], args := [d1, d2] }
  | _ => none }
def descFinishesRow : OpenClaim := { program := "ytajlceknahngkaa", sum := "922f83883144f74912de9947080dabdd7d4303a052d022e077ba8b3c7cd434bd", func := "roundelay/roundelaylaw19.DescFinishes", spec := "descFinishes", apart := false }
def DescFinishesSaid : Prop := descFinishesRow.holds Try.pinned (OpenSpec.ofChange descFinishesSpec)

/-- ITS FALSE NEIGHBOUR: 'it returns false'. Refute it at one input. -/
def descFinishesWrong : ChangeSpec := { name := "descFinishes", fn := fun _ => fun
  | [d1, d2] => { results := [.lit (.bool false)], args := [d1, d2] }
  | _ => none }
def DescFinishesWrongFalsely : Prop := descFinishesRow.holds Try.pinned (OpenSpec.ofChange descFinishesWrong)

/- THE SECOND FORM. 'bulk': how many values and letters a reading holds, each counted each time it is reached (what is shared counts as often as it is met; a slice's spare places count too). A statement '..UptoSaid' is the law's where the arguments, and the package variables that the reading takes, are together of bulk at most 1048576: NARROWER than '..Said'. Prove '..Said' where nothing that the law and all that it calls make is longer than what came in: it says more and counts as full. Else prove '..UptoSaid'. A law counts once. -/
mutual
def uptoBulk {H : Type} : DataW H → Nat
  | .lit (.string bytes) => bytes.length + 1
  | .lit _ => 1
  | .nil => 1
  | .ptr d => uptoBulk d + 1
  | .slice elems spare => uptoBulkAll elems + uptoBulkAll spare + 1
  | .agg parts => uptoBulkAll parts + 1
  | .iface _ d => uptoBulk d + 1
  | .map entries => uptoBulkEntries entries + 1
  | .held _ => 1
def uptoBulkAll {H : Type} : List (DataW H) → Nat
  | [] => 0
  | d :: r => uptoBulk d + uptoBulkAll r
def uptoBulkEntries {H : Type} : List (Lit × DataW H) → Nat
  | [] => 0
  | x :: r => uptoBulkEntry x + uptoBulkEntries r
def uptoBulkEntry {H : Type} : Lit × DataW H → Nat
  | (.string bytes, d) => bytes.length + uptoBulk d + 1
  | (_, d) => uptoBulk d + 1
 end
def uptoSmall : (H : Type) → List (DataW H) → Bool := fun _ ds => decide (uptoBulkAll ds ≤ 1048576)
def OpenSpec.upto (s : _root_.Go.ChangeSpec) : _root_.Go.OpenSpec := { _root_.Go.OpenSpec.ofChange s with cond := some uptoSmall }

/-- 'roundelaylaw01.WordGets', WHERE WHAT IT READS IS OF BULK AT MOST 1048576: true; the input reads as it did. -/
def wordGetsUptoRow : OpenClaim := { program := "ytajlceknahngkaa", sum := "922f83883144f74912de9947080dabdd7d4303a052d022e077ba8b3c7cd434bd", func := "roundelay/roundelaylaw01.WordGets", spec := "wordGets", apart := false, narrowed := true }
def WordGetsUptoSaid : Prop := wordGetsUptoRow.holds Try.pinned (OpenSpec.upto wordGetsSpec)

/-- 'roundelaylaw01.WordPuts', WHERE WHAT IT READS IS OF BULK AT MOST 1048576: true; the input reads as it did. -/
def wordPutsUptoRow : OpenClaim := { program := "ytajlceknahngkaa", sum := "922f83883144f74912de9947080dabdd7d4303a052d022e077ba8b3c7cd434bd", func := "roundelay/roundelaylaw01.WordPuts", spec := "wordPuts", apart := false, narrowed := true }
def WordPutsUptoSaid : Prop := wordPutsUptoRow.holds Try.pinned (OpenSpec.upto wordPutsSpec)

/-- 'roundelaylaw01.WordPacks', WHERE WHAT IT READS IS OF BULK AT MOST 1048576: true; the input reads as it did. -/
def wordPacksUptoRow : OpenClaim := { program := "ytajlceknahngkaa", sum := "922f83883144f74912de9947080dabdd7d4303a052d022e077ba8b3c7cd434bd", func := "roundelay/roundelaylaw01.WordPacks", spec := "wordPacks", apart := false, narrowed := true }
def WordPacksUptoSaid : Prop := wordPacksUptoRow.holds Try.pinned (OpenSpec.upto wordPacksSpec)

/-- 'roundelaylaw01.WordBack', WHERE WHAT IT READS IS OF BULK AT MOST 1048576: true; the input reads as it did. -/
def wordBackUptoRow : OpenClaim := { program := "ytajlceknahngkaa", sum := "922f83883144f74912de9947080dabdd7d4303a052d022e077ba8b3c7cd434bd", func := "roundelay/roundelaylaw01.WordBack", spec := "wordBack", apart := false, narrowed := true }
def WordBackUptoSaid : Prop := wordBackUptoRow.holds Try.pinned (OpenSpec.upto wordBackSpec)

/-- 'roundelaylaw20.NodePlaces', WHERE WHAT IT READS IS OF BULK AT MOST 1048576: true; the input reads as it did. -/
def nodePlacesUptoRow : OpenClaim := { program := "ytajlceknahngkaa", sum := "922f83883144f74912de9947080dabdd7d4303a052d022e077ba8b3c7cd434bd", func := "roundelay/roundelaylaw20.NodePlaces", spec := "nodePlaces", apart := false, narrowed := true }
def NodePlacesUptoSaid : Prop := nodePlacesUptoRow.holds Try.pinned (OpenSpec.upto nodePlacesSpec)

/-- 'roundelaylaw20.NodeApart', WHERE WHAT IT READS IS OF BULK AT MOST 1048576: true; the input reads as it did. -/
def nodeApartUptoRow : OpenClaim := { program := "ytajlceknahngkaa", sum := "922f83883144f74912de9947080dabdd7d4303a052d022e077ba8b3c7cd434bd", func := "roundelay/roundelaylaw20.NodeApart", spec := "nodeApart", apart := false, narrowed := true }
def NodeApartUptoSaid : Prop := nodeApartUptoRow.holds Try.pinned (OpenSpec.upto nodeApartSpec)

/-- 'roundelaylaw20.NodeWords', WHERE WHAT IT READS IS OF BULK AT MOST 1048576: true; the input reads as it did. -/
def nodeWordsUptoRow : OpenClaim := { program := "ytajlceknahngkaa", sum := "922f83883144f74912de9947080dabdd7d4303a052d022e077ba8b3c7cd434bd", func := "roundelay/roundelaylaw20.NodeWords", spec := "nodeWords", apart := false, narrowed := true }
def NodeWordsUptoSaid : Prop := nodeWordsUptoRow.holds Try.pinned (OpenSpec.upto nodeWordsSpec)

/-- 'roundelaylaw05.PickLines', WHERE WHAT IT READS IS OF BULK AT MOST 1048576: true; the input reads as it did. -/
def pickLinesUptoRow : OpenClaim := { program := "ytajlceknahngkaa", sum := "922f83883144f74912de9947080dabdd7d4303a052d022e077ba8b3c7cd434bd", func := "roundelay/roundelaylaw05.PickLines", spec := "pickLines", apart := false, narrowed := true }
def PickLinesUptoSaid : Prop := pickLinesUptoRow.holds Try.pinned (OpenSpec.upto pickLinesSpec)

/-- 'roundelaylaw05.PickTurns', WHERE WHAT IT READS IS OF BULK AT MOST 1048576: true; the input reads as it did. -/
def pickTurnsUptoRow : OpenClaim := { program := "ytajlceknahngkaa", sum := "922f83883144f74912de9947080dabdd7d4303a052d022e077ba8b3c7cd434bd", func := "roundelay/roundelaylaw05.PickTurns", spec := "pickTurns", apart := false, narrowed := true }
def PickTurnsUptoSaid : Prop := pickTurnsUptoRow.holds Try.pinned (OpenSpec.upto pickTurnsSpec)

/-- 'roundelaylaw05.PickRows', WHERE WHAT IT READS IS OF BULK AT MOST 1048576: true; the input reads as it did. -/
def pickRowsUptoRow : OpenClaim := { program := "ytajlceknahngkaa", sum := "922f83883144f74912de9947080dabdd7d4303a052d022e077ba8b3c7cd434bd", func := "roundelay/roundelaylaw05.PickRows", spec := "pickRows", apart := false, narrowed := true }
def PickRowsUptoSaid : Prop := pickRowsUptoRow.holds Try.pinned (OpenSpec.upto pickRowsSpec)

/-- 'roundelaylaw19.DescPacks', WHERE WHAT IT READS IS OF BULK AT MOST 1048576: true; the input reads as it did. -/
def descPacksUptoRow : OpenClaim := { program := "ytajlceknahngkaa", sum := "922f83883144f74912de9947080dabdd7d4303a052d022e077ba8b3c7cd434bd", func := "roundelay/roundelaylaw19.DescPacks", spec := "descPacks", apart := false, narrowed := true }
def DescPacksUptoSaid : Prop := descPacksUptoRow.holds Try.pinned (OpenSpec.upto descPacksSpec)

/-- 'roundelaylaw19.DescFinishes', WHERE WHAT IT READS IS OF BULK AT MOST 1048576: true; the input reads as it did. -/
def descFinishesUptoRow : OpenClaim := { program := "ytajlceknahngkaa", sum := "922f83883144f74912de9947080dabdd7d4303a052d022e077ba8b3c7cd434bd", func := "roundelay/roundelaylaw19.DescFinishes", spec := "descFinishes", apart := false, narrowed := true }
def DescFinishesUptoSaid : Prop := descFinishesUptoRow.holds Try.pinned (OpenSpec.upto descFinishesSpec)

end Rows
end Go.Proofs.Ytajlceknahngkaa
