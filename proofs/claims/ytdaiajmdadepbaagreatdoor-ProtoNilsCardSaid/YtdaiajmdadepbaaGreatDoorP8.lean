/- An evaluator over symbolic values, proved sound over the model's machine, and its use at this seat; no condition. Part 8. -/
import Derived.Test.YtdaiajmdadepbaaGreatDoorRows
import Derived.Test.YtdaiajmdadepbaaGreatDoorCards
import Derived.Test.YtdaiajmdadepbaaGreatDoorTie
import Derived.WalkKit
import Derived.ProofKit
import Derived.LaidMore
import Derived.OpenShut
import Derived.Stop.Joined
import Derived.SevenTiedAt
import Derived.Below
import Derived.Test.YtdaiajmdadepbaaGreatDoorP7
set_option linter.unusedSimpArgs false
set_option linter.unusedVariables false
set_option linter.unusedSectionVars false
set_option linter.deprecated false
/- Facts of ProtoNils' row: what it calls, each by itself. -/
set_option maxRecDepth 100000
namespace Go.Proofs.YtdaiajmdadepbaaGreatDoor.protoNils
open Go.ChangeShapes Go.WideShapes Go.ChangeAt Go.RowKit
theorem j9 : (Rows.protoNilsRow.inPlace == Tryz.prog.inPlace 3) = true := by kernel_rfl
theorem j10 : (Rows.protoNilsRow.unfollowed == Tryz.prog.unfollowed 3) = true := by kernel_rfl
theorem j11 : (Rows.protoNilsRow.recurses == Tryz.prog.recurses 3) = true := by kernel_rfl
theorem j12 : (Rows.protoNilsRow.named == Tryz.prog.varsNamed 3) = true := by kernel_rfl
end Go.Proofs.YtdaiajmdadepbaaGreatDoor.protoNils

