/- Part 22: an evaluator, proved sound, and its use at this seat; no condition. -/
import Derived.Test.YtmfohfbdddlilaaGreatRows
import Derived.WalkKit
import Derived.ProofKit
import Derived.OpenShut
import Derived.Test.YtmfohfbdddlilaaGreatP5
set_option linter.unusedSimpArgs false
set_option linter.unusedVariables false
set_option linter.unusedSectionVars false
set_option linter.deprecated false
set_option maxRecDepth 100000
namespace Go.Proofs.YtmfohfbdddlilaaGreat.sessionPurges
open Go.ChangeShapes Go.WideShapes Go.ChangeAt Go.RowKit
theorem j0:Rows.sessionPurgesRow.wf (OpenSpec.ofChange Rows.sessionPurgesSpec)=true:=by kernel_rfl
theorem j1:laidOutB Tryz.prog=true:=by kernel_rfl
theorem j2:mapsRowed Tryz.prog=true:=by kernel_rfl
theorem j3:Tryz.f10.params.all (Tryz.prog.readableRec ·)=true:=by kernel_rfl
theorem j4:namedTie Tryz.prog Rows.sessionPurgesRow.named Rows.sessionPurgesSpec.vars=true:=by kernel_rfl
theorem j5:(Rows.sessionPurgesRow.stops==[])=true:=by kernel_rfl
theorem j6:(Tryz.prog.stops==[])=true:=by kernel_rfl
theorem j7:(Rows.sessionPurgesRow.knobs==[])=true:=by kernel_rfl
theorem j8:(Tryz.prog.stopKnobs==[])=true:=by kernel_rfl
theorem N1:(Rows.sessionPurgesRow.maps==(Tryz.f10.params.toList++Rows.sessionPurgesSpec.plain.varTypes Tryz.prog).any (Tryz.prog.mapsRec ·))=true:=by kernel_rfl
theorem N2:(Rows.sessionPurgesRow.ifaces==(Tryz.f10.params.toList++Rows.sessionPurgesSpec.plain.varTypes Tryz.prog).any (Tryz.prog.ifacesRec ·))=true:=by kernel_rfl
theorem N3:(Rows.sessionPurgesRow.mapsOut==Tryz.prog.mapsAmong Tryz.f10.resultTypes.toList)=true:=by kernel_rfl
theorem N4:(Rows.sessionPurgesRow.loops==(Tryz.f10.params.toList++Rows.sessionPurgesSpec.plain.varTypes Tryz.prog).any (Tryz.prog.loopsFrom ·))=true:=by kernel_rfl
theorem N5:(Rows.sessionPurgesRow.wideKeys==(Tryz.f10.params.toList++Rows.sessionPurgesSpec.plain.varTypes Tryz.prog++Tryz.f10.resultTypes.toList).any (Tryz.prog.wideKeysFrom ·))=true:=by kernel_rfl
theorem ze:Rows.sessionPurgesSpec.vars.all (Tryz.prog.varReadable ·)=true:=by kernel_rfl
theorem N6:Tryz.f10.resultTypes.all (fun t=>Tryz.prog.readableRec t&&decide (t<Tryz.prog.types.size))=true:=by kernel_rfl
theorem N7:(Rows.sessionPurgesRow.ifacesOut==Tryz.f10.resultTypes.toList.any (Tryz.prog.ifacesRec ·))=true:=by kernel_rfl
theorem N8:(Rows.sessionPurgesRow.loopsOut==Tryz.f10.resultTypes.toList.any (Tryz.prog.loopsFrom ·))=true:=by kernel_rfl
theorem N9:(Rows.sessionPurgesRow.plainKeys==Tryz.prog.plainKeys)=true:=by kernel_rfl
theorem Oa:Rows.sessionPurgesRow.shortTexts.isNone=true:=by kernel_rfl
theorem Ob:Tryz.prog.stopsHeard=true:=by kernel_rfl
theorem Oc:Tryz.prog.mayEnter=true:=by kernel_rfl
theorem Od:(Rows.sessionPurgesRow.lifted==Tryz.prog.liftsFinal)=true:=by kernel_rfl
theorem Oe:(Tryz.prog.make==some Rows.sessionPurgesRow.make)=true:=by kernel_rfl
theorem Of:(Rows.sessionPurgesRow.kinds==(if Rows.sessionPurgesRow.domain.isEmpty then[]else Tryz.f10.params.toList.map fun t=>match Tryz.prog.underlying t with|some (.int k)=>some k|_=>none))=true:=by kernel_rfl
theorem Og:(Rows.sessionPurgesRow.pinned==Rows.sessionPurgesRow.pinnedBy)=true:=by kernel_rfl
theorem Oh:(Rows.sessionPurgesRow.veiled==(Tryz.f10.params.toList++Rows.sessionPurgesSpec.plain.varTypes Tryz.prog++Tryz.f10.resultTypes.toList).any (Tryz.prog.veiledRec ·))=true:=by kernel_rfl
theorem Oi:Rows.sessionPurgesRow.veiledFits Tryz.prog Tryz.f10.params.toList (Tryz.f10.params.toList++Rows.sessionPurgesSpec.plain.varTypes Tryz.prog++Tryz.f10.resultTypes.toList)=true:=by kernel_rfl
end Go.Proofs.YtmfohfbdddlilaaGreat.sessionPurges
