/- Joined texts. -/
import Derived.Test.YtglokdbiggbkjaaGreatRows
import Derived.WalkKit
import Derived.ProofKit
import Derived.ChangeOld
import Derived.Test.YtglokdbiggbkjaaGreatMgBoltLoops0
set_option linter.unusedVariables false
set_option linter.unusedSimpArgs false
set_option linter.defProp false
set_option maxRecDepth 100000
set_option maxHeartbeats 16000000
open Go.Proofs.Tryz
namespace Go.Proofs.YtglokdbiggbkjaaGreat
open Go.IntKind(i64)
open Go.Value(int bool slice agg tuple pointer)
open Go.Ending(returned)
open Go.Obj(cells)
section
open Go.ChangeShapes Go.WideShapes Go.ChangeAt Go.RowKit
def tE:laidOutB Tryz.pinned.checked.prog=true:=by kernel_rfl
def vX:mapsRowed Tryz.pinned.checked.prog=true:=by kernel_rfl
theorem uH:(Tryz.pinned.checked.prog).stopsHeard=true:=by kernel_rfl
theorem zh:(Tryz.pinned.checked.prog).mayEnter=true:=by kernel_rfl
end
end Go.Proofs.YtglokdbiggbkjaaGreat
