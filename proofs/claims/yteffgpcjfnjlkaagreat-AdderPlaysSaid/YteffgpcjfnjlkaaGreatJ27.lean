/- Layer 6: cells as the loom's object. -/
import Derived.Test.YteffgpcjfnjlkaaGreatJ16
set_option maxRecDepth 100000
set_option linter.unusedVariables false
set_option linter.unusedSimpArgs false
set_option linter.unnecessarySimpa false
namespace Go.Proofs.YteffgpcjfnjlkaaGreat
open Go.RowKit
section
variable (w : World) (Mut : Nat → Prop) (I : WIds) (N : Nat) (wd : WD) (b bc ba : Nat) (c : CallD)
end
end Go.Proofs.YteffgpcjfnjlkaaGreat
