/- Part 17: an evaluator, proved sound, and its use at this seat; no condition. -/
import Derived.Test.YtpbnfcmlcmiieaaGreatDoorRows
import Derived.Test.YtpbnfcmlcmiieaaGreatDoorCards
import Derived.Test.YtpbnfcmlcmiieaaGreatDoorTie
import Derived.WalkKit
import Derived.ProofKit
import Derived.LaidMore
import Derived.OpenShut
import Derived.Stop.Joined
import Derived.SevenTiedAt
import Derived.Below
import Derived.Test.YtpbnfcmlcmiieaaGreatDoorP2
set_option linter.unusedSimpArgs false
set_option linter.unusedVariables false
set_option linter.unusedSectionVars false
set_option linter.deprecated false
set_option maxRecDepth 100000
namespace Go.Proofs.YtpbnfcmlcmiieaaGreatDoor.storeRemoves
open Go.ChangeShapes Go.WideShapes Go.ChangeAt Go.RowKit
theorem j0:Rows.storeRemovesRow.wf (OpenSpec.ofChange Rows.storeRemovesSpec)=true:=by kernel_rfl
theorem j1:laidOutB Tryz.prog=true:=by kernel_rfl
theorem j2:mapsRowed Tryz.prog=true:=by kernel_rfl
theorem j3:Tryz.f3.params.all (Tryz.prog.readableRec ·)=true:=by kernel_rfl
theorem j4:namedTie Tryz.prog Rows.storeRemovesRow.named Rows.storeRemovesSpec.vars=true:=by kernel_rfl
theorem j5:(Rows.storeRemovesRow.stops==[])=true:=by kernel_rfl
theorem j6:(Tryz.prog.stops==[])=true:=by kernel_rfl
theorem j7:(Rows.storeRemovesRow.knobs==[])=true:=by kernel_rfl
theorem j8:(Tryz.prog.stopKnobs==[])=true:=by kernel_rfl
theorem y6:(Rows.storeRemovesRow.maps==(Tryz.f3.params.toList++Rows.storeRemovesSpec.plain.varTypes Tryz.prog).any (Tryz.prog.mapsRec ·))=true:=by kernel_rfl
theorem y7:(Rows.storeRemovesRow.ifaces==(Tryz.f3.params.toList++Rows.storeRemovesSpec.plain.varTypes Tryz.prog).any (Tryz.prog.ifacesRec ·))=true:=by kernel_rfl
theorem y8:(Rows.storeRemovesRow.mapsOut==Tryz.prog.mapsAmong Tryz.f3.resultTypes.toList)=true:=by kernel_rfl
theorem y9:(Rows.storeRemovesRow.loops==(Tryz.f3.params.toList++Rows.storeRemovesSpec.plain.varTypes Tryz.prog).any (Tryz.prog.loopsFrom ·))=true:=by kernel_rfl
theorem za:(Rows.storeRemovesRow.wideKeys==(Tryz.f3.params.toList++Rows.storeRemovesSpec.plain.varTypes Tryz.prog++Tryz.f3.resultTypes.toList).any (Tryz.prog.wideKeysFrom ·))=true:=by kernel_rfl
theorem zb:Rows.storeRemovesSpec.vars.all (Tryz.prog.varReadable ·)=true:=by kernel_rfl
theorem zd:Tryz.f3.resultTypes.all (fun t=>Tryz.prog.readableRec t&&decide (t<Tryz.prog.types.size))=true:=by kernel_rfl
theorem ze:(Rows.storeRemovesRow.ifacesOut==Tryz.f3.resultTypes.toList.any (Tryz.prog.ifacesRec ·))=true:=by kernel_rfl
theorem zf:(Rows.storeRemovesRow.loopsOut==Tryz.f3.resultTypes.toList.any (Tryz.prog.loopsFrom ·))=true:=by kernel_rfl
theorem zg:(Rows.storeRemovesRow.plainKeys==Tryz.prog.plainKeys)=true:=by kernel_rfl
theorem zh:Rows.storeRemovesRow.shortTexts.isNone=true:=by kernel_rfl
theorem zi:Tryz.prog.stopsHeard=true:=by kernel_rfl
theorem zj:Tryz.prog.mayEnter=true:=by kernel_rfl
theorem zk:(Rows.storeRemovesRow.lifted==Tryz.prog.liftsFinal)=true:=by kernel_rfl
theorem zl:(Tryz.prog.make==some Rows.storeRemovesRow.make)=true:=by kernel_rfl
theorem zm:(Rows.storeRemovesRow.kinds==(if Rows.storeRemovesRow.domain.isEmpty then[]else Tryz.f3.params.toList.map fun t=>match Tryz.prog.underlying t with|some (.int k)=>some k|_=>none))=true:=by kernel_rfl
theorem zn:(Rows.storeRemovesRow.pinned==Rows.storeRemovesRow.pinnedBy)=true:=by kernel_rfl
theorem zo:(Rows.storeRemovesRow.veiled==(Tryz.f3.params.toList++Rows.storeRemovesSpec.plain.varTypes Tryz.prog++Tryz.f3.resultTypes.toList).any (Tryz.prog.veiledRec ·))=true:=by kernel_rfl
theorem zp:Rows.storeRemovesRow.veiledFits Tryz.prog Tryz.f3.params.toList (Tryz.f3.params.toList++Rows.storeRemovesSpec.plain.varTypes Tryz.prog++Tryz.f3.resultTypes.toList)=true:=by kernel_rfl
end Go.Proofs.YtpbnfcmlcmiieaaGreatDoor.storeRemoves
