/- Part 17: an evaluator, proved sound, and its use at this seat; no condition. -/
import Derived.Test.YtmfohfbdddlilaaGreatRows
import Derived.WalkKit
import Derived.ProofKit
import Derived.OpenShut
import Derived.Test.YtmfohfbdddlilaaGreatP2
set_option linter.unusedSimpArgs false
set_option linter.unusedVariables false
set_option linter.unusedSectionVars false
set_option linter.deprecated false
set_option maxRecDepth 100000
namespace Go.Proofs.YtmfohfbdddlilaaGreat.sessionPlans
open Go.ChangeShapes Go.WideShapes Go.ChangeAt Go.RowKit
theorem j9:(Rows.sessionPlansRow.inPlace==Tryz.prog.inPlace 11)=true:=by kernel_rfl
theorem Nq:(Rows.sessionPlansRow.unfollowed==Tryz.prog.unfollowed 11)=true:=by kernel_rfl
theorem Nr:(Rows.sessionPlansRow.recurses==Tryz.prog.recurses 11)=true:=by kernel_rfl
theorem Ns:(Rows.sessionPlansRow.named==Tryz.prog.varsNamed 11)=true:=by kernel_rfl
end Go.Proofs.YtmfohfbdddlilaaGreat.sessionPlans
