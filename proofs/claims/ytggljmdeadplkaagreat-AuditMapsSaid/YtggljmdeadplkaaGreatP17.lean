/- Part 17: an evaluator, proved sound, and its use at this seat; no condition. -/
import Derived.Test.YtggljmdeadplkaaGreatRows
import Derived.WalkKit
import Derived.ProofKit
import Derived.OpenShut
import Derived.Test.YtggljmdeadplkaaGreatP2
set_option linter.unusedSimpArgs false
set_option linter.unusedVariables false
set_option linter.unusedSectionVars false
set_option linter.deprecated false
set_option maxRecDepth 100000
namespace Go.Proofs.YtggljmdeadplkaaGreat.auditMaps
open Go.ChangeShapes Go.WideShapes Go.ChangeAt Go.RowKit
theorem j0:Rows.auditMapsRow.wf (OpenSpec.ofChange Rows.auditMapsSpec)=true:=by kernel_rfl
theorem j1:laidOutB Tryz.prog=true:=by kernel_rfl
theorem j2:mapsRowed Tryz.prog=true:=by kernel_rfl
theorem j3:Tryz.f4.params.all (Tryz.prog.readableRec ·)=true:=by kernel_rfl
theorem j4:namedTie Tryz.prog Rows.auditMapsRow.named Rows.auditMapsSpec.vars=true:=by kernel_rfl
theorem j5:(Rows.auditMapsRow.stops==[])=true:=by kernel_rfl
theorem j6:(Tryz.prog.stops==[])=true:=by kernel_rfl
theorem j7:(Rows.auditMapsRow.knobs==[])=true:=by kernel_rfl
theorem j8:(Tryz.prog.stopKnobs==[])=true:=by kernel_rfl
theorem HH:(Rows.auditMapsRow.maps==(Tryz.f4.params.toList++Rows.auditMapsSpec.plain.varTypes Tryz.prog).any (Tryz.prog.mapsRec ·))=true:=by kernel_rfl
theorem HI:(Rows.auditMapsRow.ifaces==(Tryz.f4.params.toList++Rows.auditMapsSpec.plain.varTypes Tryz.prog).any (Tryz.prog.ifacesRec ·))=true:=by kernel_rfl
theorem HJ:(Rows.auditMapsRow.mapsOut==Tryz.prog.mapsAmong Tryz.f4.resultTypes.toList)=true:=by kernel_rfl
theorem HK:(Rows.auditMapsRow.loops==(Tryz.f4.params.toList++Rows.auditMapsSpec.plain.varTypes Tryz.prog).any (Tryz.prog.loopsFrom ·))=true:=by kernel_rfl
theorem HL:(Rows.auditMapsRow.wideKeys==(Tryz.f4.params.toList++Rows.auditMapsSpec.plain.varTypes Tryz.prog++Tryz.f4.resultTypes.toList).any (Tryz.prog.wideKeysFrom ·))=true:=by kernel_rfl
theorem vB:Rows.auditMapsSpec.vars.all (Tryz.prog.varReadable ·)=true:=by kernel_rfl
theorem HM:Tryz.f4.resultTypes.all (fun t=>Tryz.prog.readableRec t&&decide (t<Tryz.prog.types.size))=true:=by kernel_rfl
theorem HN:(Rows.auditMapsRow.ifacesOut==Tryz.f4.resultTypes.toList.any (Tryz.prog.ifacesRec ·))=true:=by kernel_rfl
theorem HP:(Rows.auditMapsRow.loopsOut==Tryz.f4.resultTypes.toList.any (Tryz.prog.loopsFrom ·))=true:=by kernel_rfl
theorem HQ:(Rows.auditMapsRow.plainKeys==Tryz.prog.plainKeys)=true:=by kernel_rfl
theorem HR:Rows.auditMapsRow.shortTexts.isNone=true:=by kernel_rfl
theorem HT:Tryz.prog.stopsHeard=true:=by kernel_rfl
theorem HU:Tryz.prog.mayEnter=true:=by kernel_rfl
theorem HV:(Rows.auditMapsRow.lifted==Tryz.prog.liftsFinal)=true:=by kernel_rfl
theorem HW:(Tryz.prog.make==some Rows.auditMapsRow.make)=true:=by kernel_rfl
theorem HX:(Rows.auditMapsRow.kinds==(if Rows.auditMapsRow.domain.isEmpty then[]else Tryz.f4.params.toList.map fun t=>match Tryz.prog.underlying t with|some (.int k)=>some k|_=>none))=true:=by kernel_rfl
theorem HY:(Rows.auditMapsRow.pinned==Rows.auditMapsRow.pinnedBy)=true:=by kernel_rfl
theorem HZ:(Rows.auditMapsRow.veiled==(Tryz.f4.params.toList++Rows.auditMapsSpec.plain.varTypes Tryz.prog++Tryz.f4.resultTypes.toList).any (Tryz.prog.veiledRec ·))=true:=by kernel_rfl
theorem H3:Rows.auditMapsRow.veiledFits Tryz.prog Tryz.f4.params.toList (Tryz.f4.params.toList++Rows.auditMapsSpec.plain.varTypes Tryz.prog++Tryz.f4.resultTypes.toList)=true:=by kernel_rfl
end Go.Proofs.YtggljmdeadplkaaGreat.auditMaps
