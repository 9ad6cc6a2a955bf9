/- Part 19: an evaluator, proved sound, and its use at this seat; no condition. -/
import Derived.Test.YtpbnfcmlcmiieaaGreatDoorRows
import Derived.Test.YtpbnfcmlcmiieaaGreatDoorCards
import Derived.Test.YtpbnfcmlcmiieaaGreatDoorTie
import Derived.WalkKit
import Derived.ProofKit
import Derived.LaidMore
import Derived.OpenShut
import Derived.Stop.Joined
import Derived.SevenTiedAt
import Derived.Below
import Derived.Test.YtpbnfcmlcmiieaaGreatDoorP2
set_option linter.unusedSimpArgs false
set_option linter.unusedVariables false
set_option linter.unusedSectionVars false
set_option linter.deprecated false
set_option maxRecDepth 100000
namespace Go.Proofs.YtpbnfcmlcmiieaaGreatDoor.storeRemoves
open Go.ChangeShapes Go.WideShapes Go.ChangeAt Go.RowKit
theorem w1:Tryz.pinned.checked.prog.funcNamed Rows.storeRemovesRow.func=some 3:=by kernel_rfl
theorem w2:OpenClaim.wfByText (OpenSpec.ofChange Rows.storeRemovesSpec) Rows.storeRemovesRow=true:=by kernel_rfl
theorem w3:Tryz.pinned.checked.prog.mainIs=some (true, "115f88083be34e0e6f2e27bada26c79c0d642f53ca9bcdfb28b79036271dd707".toList):=by kernel_rfl
theorem w4:false=Tryz.pinned.checked.prog.looks []:=by kernel_rfl
theorem w5:([22,23].all fun u=> !Tryz.prog.wantsStandIn u)=true:=by kernel_rfl
theorem w6:false=Rows.storeRemovesRow.goesBy Tryz.pinned.checked.prog:=by kernel_rfl
end Go.Proofs.YtpbnfcmlcmiieaaGreatDoor.storeRemoves
