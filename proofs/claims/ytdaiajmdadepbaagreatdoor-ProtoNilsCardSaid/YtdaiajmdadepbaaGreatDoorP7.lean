/- An evaluator over symbolic values, proved sound over the model's machine, and its use at this seat; no condition. Part 7. -/
import Derived.Test.YtdaiajmdadepbaaGreatDoorRows
import Derived.Test.YtdaiajmdadepbaaGreatDoorCards
import Derived.Test.YtdaiajmdadepbaaGreatDoorTie
import Derived.WalkKit
import Derived.ProofKit
import Derived.LaidMore
import Derived.OpenShut
import Derived.Stop.Joined
import Derived.SevenTiedAt
import Derived.Below
import Derived.Test.YtdaiajmdadepbaaGreatDoorP6
set_option linter.unusedSimpArgs false
set_option linter.unusedVariables false
set_option linter.unusedSectionVars false
set_option linter.deprecated false
/- Facts of ProtoNils' row, each by itself. -/
set_option maxRecDepth 100000
namespace Go.Proofs.YtdaiajmdadepbaaGreatDoor.protoNils
open Go.ChangeShapes Go.WideShapes Go.ChangeAt Go.RowKit
theorem j0 : Rows.protoNilsRow.wf (OpenSpec.ofChange Rows.protoNilsSpec) = true := by kernel_rfl
theorem j1 : laidOutB Tryz.prog = true := by kernel_rfl
theorem j2 : mapsRowed Tryz.prog = true := by kernel_rfl
theorem j3 : Tryz.f3.params.all (Tryz.prog.readableRec ·) = true := by kernel_rfl
theorem j4 : namedTie Tryz.prog Rows.protoNilsRow.named Rows.protoNilsSpec.vars = true := by kernel_rfl
theorem j5 : (Rows.protoNilsRow.stops == []) = true := by kernel_rfl
theorem j6 : (Tryz.prog.stops == []) = true := by kernel_rfl
theorem j7 : (Rows.protoNilsRow.knobs == []) = true := by kernel_rfl
theorem j8 : (Tryz.prog.stopKnobs == []) = true := by kernel_rfl
theorem j13 : (Rows.protoNilsRow.maps == (Tryz.f3.params.toList ++ Rows.protoNilsSpec.plain.varTypes Tryz.prog).any (Tryz.prog.mapsRec ·)) = true := by kernel_rfl
theorem j14 : (Rows.protoNilsRow.ifaces == (Tryz.f3.params.toList ++ Rows.protoNilsSpec.plain.varTypes Tryz.prog).any (Tryz.prog.ifacesRec ·)) = true := by kernel_rfl
theorem j15 : (Rows.protoNilsRow.mapsOut == Tryz.prog.mapsAmong Tryz.f3.resultTypes.toList) = true := by kernel_rfl
theorem j16 : (Rows.protoNilsRow.loops == (Tryz.f3.params.toList ++ Rows.protoNilsSpec.plain.varTypes Tryz.prog).any (Tryz.prog.loopsFrom ·)) = true := by kernel_rfl
theorem j17 : (Rows.protoNilsRow.wideKeys == (Tryz.f3.params.toList ++ Rows.protoNilsSpec.plain.varTypes Tryz.prog ++ Tryz.f3.resultTypes.toList).any (Tryz.prog.wideKeysFrom ·)) = true := by kernel_rfl
theorem j18 : Rows.protoNilsSpec.vars.all (Tryz.prog.varReadable ·) = true := by kernel_rfl
theorem j19 : Tryz.f3.resultTypes.all (fun t => Tryz.prog.readableRec t && decide (t < Tryz.prog.types.size)) = true := by kernel_rfl
theorem j20 : (Rows.protoNilsRow.ifacesOut == Tryz.f3.resultTypes.toList.any (Tryz.prog.ifacesRec ·)) = true := by kernel_rfl
theorem j21 : (Rows.protoNilsRow.loopsOut == Tryz.f3.resultTypes.toList.any (Tryz.prog.loopsFrom ·)) = true := by kernel_rfl
theorem j22 : (Rows.protoNilsRow.plainKeys == Tryz.prog.plainKeys) = true := by kernel_rfl
theorem j23 : Rows.protoNilsRow.shortTexts.isNone = true := by kernel_rfl
theorem j24 : Tryz.prog.stopsHeard = true := by kernel_rfl
theorem j25 : Tryz.prog.mayEnter = true := by kernel_rfl
theorem j26 : (Rows.protoNilsRow.lifted == Tryz.prog.liftsFinal) = true := by kernel_rfl
theorem j27 : (Tryz.prog.make == some Rows.protoNilsRow.make) = true := by kernel_rfl
theorem j28 : (Rows.protoNilsRow.kinds == (if Rows.protoNilsRow.domain.isEmpty then [] else Tryz.f3.params.toList.map fun t => match Tryz.prog.underlying t with | some (.int k) => some k | _ => none)) = true := by kernel_rfl
theorem j29 : (Rows.protoNilsRow.pinned == Rows.protoNilsRow.pinnedBy) = true := by kernel_rfl
theorem j30 : (Rows.protoNilsRow.veiled == (Tryz.f3.params.toList ++ Rows.protoNilsSpec.plain.varTypes Tryz.prog ++ Tryz.f3.resultTypes.toList).any (Tryz.prog.veiledRec ·)) = true := by kernel_rfl
theorem j31 : Rows.protoNilsRow.veiledFits Tryz.prog Tryz.f3.params.toList (Tryz.f3.params.toList ++ Rows.protoNilsSpec.plain.varTypes Tryz.prog ++ Tryz.f3.resultTypes.toList) = true := by kernel_rfl
end Go.Proofs.YtdaiajmdadepbaaGreatDoor.protoNils

