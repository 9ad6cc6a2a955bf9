/- Part 16: an evaluator, proved sound, and its use at this seat; no condition. -/
import Derived.Test.YtmfohfbdddlilaaGreatRows
import Derived.WalkKit
import Derived.ProofKit
import Derived.OpenShut
import Derived.Test.YtmfohfbdddlilaaGreatP2
set_option linter.unusedSimpArgs false
set_option linter.unusedVariables false
set_option linter.unusedSectionVars false
set_option linter.deprecated false
set_option maxRecDepth 100000
namespace Go.Proofs.YtmfohfbdddlilaaGreat.sessionPlans
open Go.ChangeShapes Go.WideShapes Go.ChangeAt Go.RowKit
theorem j0:Rows.sessionPlansRow.wf (OpenSpec.ofChange Rows.sessionPlansSpec)=true:=by kernel_rfl
theorem j1:laidOutB Tryz.prog=true:=by kernel_rfl
theorem j2:mapsRowed Tryz.prog=true:=by kernel_rfl
theorem j3:Tryz.f11.params.all (Tryz.prog.readableRec ·)=true:=by kernel_rfl
theorem j4:namedTie Tryz.prog Rows.sessionPlansRow.named Rows.sessionPlansSpec.vars=true:=by kernel_rfl
theorem j5:(Rows.sessionPlansRow.stops==[])=true:=by kernel_rfl
theorem j6:(Tryz.prog.stops==[])=true:=by kernel_rfl
theorem j7:(Rows.sessionPlansRow.knobs==[])=true:=by kernel_rfl
theorem j8:(Tryz.prog.stopKnobs==[])=true:=by kernel_rfl
theorem Nt:(Rows.sessionPlansRow.maps==(Tryz.f11.params.toList++Rows.sessionPlansSpec.plain.varTypes Tryz.prog).any (Tryz.prog.mapsRec ·))=true:=by kernel_rfl
theorem Nu:(Rows.sessionPlansRow.ifaces==(Tryz.f11.params.toList++Rows.sessionPlansSpec.plain.varTypes Tryz.prog).any (Tryz.prog.ifacesRec ·))=true:=by kernel_rfl
theorem Nv:(Rows.sessionPlansRow.mapsOut==Tryz.prog.mapsAmong Tryz.f11.resultTypes.toList)=true:=by kernel_rfl
theorem Nw:(Rows.sessionPlansRow.loops==(Tryz.f11.params.toList++Rows.sessionPlansSpec.plain.varTypes Tryz.prog).any (Tryz.prog.loopsFrom ·))=true:=by kernel_rfl
theorem Nx:(Rows.sessionPlansRow.wideKeys==(Tryz.f11.params.toList++Rows.sessionPlansSpec.plain.varTypes Tryz.prog++Tryz.f11.resultTypes.toList).any (Tryz.prog.wideKeysFrom ·))=true:=by kernel_rfl
theorem yO:Rows.sessionPlansSpec.vars.all (Tryz.prog.varReadable ·)=true:=by kernel_rfl
theorem Ny:Tryz.f11.resultTypes.all (fun t=>Tryz.prog.readableRec t&&decide (t<Tryz.prog.types.size))=true:=by kernel_rfl
theorem Nz:(Rows.sessionPlansRow.ifacesOut==Tryz.f11.resultTypes.toList.any (Tryz.prog.ifacesRec ·))=true:=by kernel_rfl
theorem NA:(Rows.sessionPlansRow.loopsOut==Tryz.f11.resultTypes.toList.any (Tryz.prog.loopsFrom ·))=true:=by kernel_rfl
theorem NB:(Rows.sessionPlansRow.plainKeys==Tryz.prog.plainKeys)=true:=by kernel_rfl
theorem NC:Rows.sessionPlansRow.shortTexts.isNone=true:=by kernel_rfl
theorem ND:Tryz.prog.stopsHeard=true:=by kernel_rfl
theorem NF:Tryz.prog.mayEnter=true:=by kernel_rfl
theorem NG:(Rows.sessionPlansRow.lifted==Tryz.prog.liftsFinal)=true:=by kernel_rfl
theorem NH:(Tryz.prog.make==some Rows.sessionPlansRow.make)=true:=by kernel_rfl
theorem NI:(Rows.sessionPlansRow.kinds==(if Rows.sessionPlansRow.domain.isEmpty then[]else Tryz.f11.params.toList.map fun t=>match Tryz.prog.underlying t with|some (.int k)=>some k|_=>none))=true:=by kernel_rfl
theorem NJ:(Rows.sessionPlansRow.pinned==Rows.sessionPlansRow.pinnedBy)=true:=by kernel_rfl
theorem NK:(Rows.sessionPlansRow.veiled==(Tryz.f11.params.toList++Rows.sessionPlansSpec.plain.varTypes Tryz.prog++Tryz.f11.resultTypes.toList).any (Tryz.prog.veiledRec ·))=true:=by kernel_rfl
theorem NL:Rows.sessionPlansRow.veiledFits Tryz.prog Tryz.f11.params.toList (Tryz.f11.params.toList++Rows.sessionPlansSpec.plain.varTypes Tryz.prog++Tryz.f11.resultTypes.toList)=true:=by kernel_rfl
end Go.Proofs.YtmfohfbdddlilaaGreat.sessionPlans
