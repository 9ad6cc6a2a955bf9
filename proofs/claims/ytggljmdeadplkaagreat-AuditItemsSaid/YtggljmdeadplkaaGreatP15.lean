/- Part 15: an evaluator, proved sound, and its use at this seat; no condition. -/
import Derived.Test.YtggljmdeadplkaaGreatRows
import Derived.WalkKit
import Derived.ProofKit
import Derived.OpenShut
import Derived.Test.YtggljmdeadplkaaGreatP2
set_option linter.unusedSimpArgs false
set_option linter.unusedVariables false
set_option linter.unusedSectionVars false
set_option linter.deprecated false
set_option maxRecDepth 100000
namespace Go.Proofs.YtggljmdeadplkaaGreat.auditItems
open Go.ChangeShapes Go.WideShapes Go.ChangeAt Go.RowKit
theorem j0:Rows.auditItemsRow.wf (OpenSpec.ofChange Rows.auditItemsSpec)=true:=by kernel_rfl
theorem j1:laidOutB Tryz.prog=true:=by kernel_rfl
theorem j2:mapsRowed Tryz.prog=true:=by kernel_rfl
theorem j3:Tryz.f3.params.all (Tryz.prog.readableRec ·)=true:=by kernel_rfl
theorem j4:namedTie Tryz.prog Rows.auditItemsRow.named Rows.auditItemsSpec.vars=true:=by kernel_rfl
theorem j5:(Rows.auditItemsRow.stops==[])=true:=by kernel_rfl
theorem j6:(Tryz.prog.stops==[])=true:=by kernel_rfl
theorem j7:(Rows.auditItemsRow.knobs==[])=true:=by kernel_rfl
theorem j8:(Tryz.prog.stopKnobs==[])=true:=by kernel_rfl
theorem EX:(Rows.auditItemsRow.maps==(Tryz.f3.params.toList++Rows.auditItemsSpec.plain.varTypes Tryz.prog).any (Tryz.prog.mapsRec ·))=true:=by kernel_rfl
theorem EY:(Rows.auditItemsRow.ifaces==(Tryz.f3.params.toList++Rows.auditItemsSpec.plain.varTypes Tryz.prog).any (Tryz.prog.ifacesRec ·))=true:=by kernel_rfl
theorem EZ:(Rows.auditItemsRow.mapsOut==Tryz.prog.mapsAmong Tryz.f3.resultTypes.toList)=true:=by kernel_rfl
theorem E0:(Rows.auditItemsRow.loops==(Tryz.f3.params.toList++Rows.auditItemsSpec.plain.varTypes Tryz.prog).any (Tryz.prog.loopsFrom ·))=true:=by kernel_rfl
theorem E2:(Rows.auditItemsRow.wideKeys==(Tryz.f3.params.toList++Rows.auditItemsSpec.plain.varTypes Tryz.prog++Tryz.f3.resultTypes.toList).any (Tryz.prog.wideKeysFrom ·))=true:=by kernel_rfl
theorem E3:Rows.auditItemsSpec.vars.all (Tryz.prog.varReadable ·)=true:=by kernel_rfl
theorem E4:Tryz.f3.resultTypes.all (fun t=>Tryz.prog.readableRec t&&decide (t<Tryz.prog.types.size))=true:=by kernel_rfl
theorem E5:(Rows.auditItemsRow.ifacesOut==Tryz.f3.resultTypes.toList.any (Tryz.prog.ifacesRec ·))=true:=by kernel_rfl
theorem E6:(Rows.auditItemsRow.loopsOut==Tryz.f3.resultTypes.toList.any (Tryz.prog.loopsFrom ·))=true:=by kernel_rfl
theorem E7:(Rows.auditItemsRow.plainKeys==Tryz.prog.plainKeys)=true:=by kernel_rfl
theorem E8:Rows.auditItemsRow.shortTexts.isNone=true:=by kernel_rfl
theorem E9:Tryz.prog.stopsHeard=true:=by kernel_rfl
theorem Fa:Tryz.prog.mayEnter=true:=by kernel_rfl
theorem Fb:(Rows.auditItemsRow.lifted==Tryz.prog.liftsFinal)=true:=by kernel_rfl
theorem Fc:(Tryz.prog.make==some Rows.auditItemsRow.make)=true:=by kernel_rfl
theorem Fe:(Rows.auditItemsRow.kinds==(if Rows.auditItemsRow.domain.isEmpty then[]else Tryz.f3.params.toList.map fun t=>match Tryz.prog.underlying t with|some (.int k)=>some k|_=>none))=true:=by kernel_rfl
theorem Ff:(Rows.auditItemsRow.pinned==Rows.auditItemsRow.pinnedBy)=true:=by kernel_rfl
theorem Fg:(Rows.auditItemsRow.veiled==(Tryz.f3.params.toList++Rows.auditItemsSpec.plain.varTypes Tryz.prog++Tryz.f3.resultTypes.toList).any (Tryz.prog.veiledRec ·))=true:=by kernel_rfl
theorem Fh:Rows.auditItemsRow.veiledFits Tryz.prog Tryz.f3.params.toList (Tryz.f3.params.toList++Rows.auditItemsSpec.plain.varTypes Tryz.prog++Tryz.f3.resultTypes.toList)=true:=by kernel_rfl
end Go.Proofs.YtggljmdeadplkaaGreat.auditItems
