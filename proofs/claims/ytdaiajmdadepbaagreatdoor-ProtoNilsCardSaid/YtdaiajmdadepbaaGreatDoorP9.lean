/- An evaluator over symbolic values, proved sound over the model's machine, and its use at this seat; no condition. Part 9. -/
import Derived.Test.YtdaiajmdadepbaaGreatDoorRows
import Derived.Test.YtdaiajmdadepbaaGreatDoorCards
import Derived.Test.YtdaiajmdadepbaaGreatDoorTie
import Derived.WalkKit
import Derived.ProofKit
import Derived.LaidMore
import Derived.OpenShut
import Derived.Stop.Joined
import Derived.SevenTiedAt
import Derived.Below
import Derived.Test.YtdaiajmdadepbaaGreatDoorP8
set_option linter.unusedSimpArgs false
set_option linter.unusedVariables false
set_option linter.unusedSectionVars false
set_option linter.deprecated false
/- Facts of ProtoNils' card. -/
set_option maxRecDepth 100000
namespace Go.Proofs.YtdaiajmdadepbaaGreatDoor.protoNils
open Go.ChangeShapes Go.WideShapes Go.ChangeAt Go.RowKit
theorem w1 : Tryz.pinned.checked.prog.funcNamed Rows.protoNilsRow.func = some 3 := by kernel_rfl
theorem w2 : OpenClaim.wfByText (OpenSpec.ofChange Rows.protoNilsSpec) Rows.protoNilsRow = true := by kernel_rfl
theorem w3 : Tryz.pinned.checked.prog.mainIs = some (true, "f3094eca1b50fcbd1f77f181563f9ebe425288d282e09818f3e12cf5a7a41d39".toList) := by kernel_rfl
theorem w4 : false = Tryz.pinned.checked.prog.looks [] := by kernel_rfl
theorem w5 : ([25, 3].all fun u => !Tryz.prog.wantsStandIn u) = true := by kernel_rfl
theorem w6 : false = Rows.protoNilsRow.goesBy Tryz.pinned.checked.prog := by kernel_rfl
end Go.Proofs.YtdaiajmdadepbaaGreatDoor.protoNils

