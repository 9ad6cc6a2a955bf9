/- Part 23: an evaluator, proved sound, and its use at this seat; no condition. -/
import Derived.Test.YtmfohfbdddlilaaGreatRows
import Derived.WalkKit
import Derived.ProofKit
import Derived.OpenShut
import Derived.Test.YtmfohfbdddlilaaGreatP5
set_option linter.unusedSimpArgs false
set_option linter.unusedVariables false
set_option linter.unusedSectionVars false
set_option linter.deprecated false
set_option maxRecDepth 100000
namespace Go.Proofs.YtmfohfbdddlilaaGreat.sessionPurges
open Go.ChangeShapes Go.WideShapes Go.ChangeAt Go.RowKit
theorem j9:(Rows.sessionPurgesRow.inPlace==Tryz.prog.inPlace 10)=true:=by kernel_rfl
theorem NY:(Rows.sessionPurgesRow.unfollowed==Tryz.prog.unfollowed 10)=true:=by kernel_rfl
theorem NZ:(Rows.sessionPurgesRow.recurses==Tryz.prog.recurses 10)=true:=by kernel_rfl
theorem N0:(Rows.sessionPurgesRow.named==Tryz.prog.varsNamed 10)=true:=by kernel_rfl
end Go.Proofs.YtmfohfbdddlilaaGreat.sessionPurges
