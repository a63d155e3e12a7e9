/- Joined: JfP. -/
import Derived.Test.YtgilghiegfgjeaaGreatDoorRows
import Derived.WalkKit
import Derived.ProofKit
import Derived.ChangeOld
section
set_option linter.unusedVariables false
set_option linter.unusedSimpArgs false
/- Closed facts of the whole cut, once for all laws of a great seat. -/
namespace Go.Proofs.YtgilghiegfgjeaaGreatDoor
open Go.ChangeShapes Go.WideShapes Go.ChangeAt Go.RowKit
theorem laidOutP : laidOutB Tryz.pinned.checked.prog = true := by kernel_rfl
theorem mapsRowedP : mapsRowed Tryz.pinned.checked.prog = true := by kernel_rfl
theorem stopsHeardP : (Tryz.pinned.checked.prog).stopsHeard = true := by kernel_rfl
theorem mayEnterP : (Tryz.pinned.checked.prog).mayEnter = true := by kernel_rfl
end Go.Proofs.YtgilghiegfgjeaaGreatDoor
end
