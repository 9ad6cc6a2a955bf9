/- Part 18: an evaluator, proved sound, and its use at this seat; no condition. -/
import Derived.Test.YtpbnfcmlcmiieaaGreatDoorRows
import Derived.Test.YtpbnfcmlcmiieaaGreatDoorCards
import Derived.Test.YtpbnfcmlcmiieaaGreatDoorTie
import Derived.WalkKit
import Derived.ProofKit
import Derived.LaidMore
import Derived.OpenShut
import Derived.Stop.Joined
import Derived.SevenTiedAt
import Derived.Below
import Derived.Test.YtpbnfcmlcmiieaaGreatDoorP2
set_option linter.unusedSimpArgs false
set_option linter.unusedVariables false
set_option linter.unusedSectionVars false
set_option linter.deprecated false
set_option maxRecDepth 100000
namespace Go.Proofs.YtpbnfcmlcmiieaaGreatDoor.storeRemoves
open Go.ChangeShapes Go.WideShapes Go.ChangeAt Go.RowKit
theorem j9:(Rows.storeRemovesRow.inPlace==Tryz.prog.inPlace 3)=true:=by kernel_rfl
theorem yY:(Rows.storeRemovesRow.unfollowed==Tryz.prog.unfollowed 3)=true:=by kernel_rfl
theorem yZ:(Rows.storeRemovesRow.recurses==Tryz.prog.recurses 3)=true:=by kernel_rfl
theorem y5:(Rows.storeRemovesRow.named==Tryz.prog.varsNamed 3)=true:=by kernel_rfl
end Go.Proofs.YtpbnfcmlcmiieaaGreatDoor.storeRemoves
