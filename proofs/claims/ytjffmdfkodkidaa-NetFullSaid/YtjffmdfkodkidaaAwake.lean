/- The seat's tables and runs, for the evaluator; no condition. -/
import Derived.Test.YtjffmdfkodkidaaOk
import Derived.Test.YtjffmdfkodkidaaAmRun2
set_option linter.unusedSimpArgs false
set_option linter.unusedVariables false
set_option linter.unusedSectionVars false
set_option linter.deprecated false
namespace Go.Proofs
open Go Go.Am Go.RowKit
set_option maxRecDepth 100000
theorem Try.noExt : T.all (fun _ => false) Try.tab.ext = true := by kernel_rfl
theorem Try.extOk : ExtTab Try.prog Try.tab := fun f tag fn h => by have := T.all_ok _ Try.noExt f tag h; cases this
theorem Try.mix : Try.prog.follows .mixedOrders = true := by kernel_rfl
theorem Try.awake7 : Try.tab.fns.get 7 = some Try.f7 := by kernel_rfl
theorem Try.awakeRun : allTrue (run2 Try.tab noCon 5000 { fr := AFrame.enter Try.f7 7 (Try.f7.body.getD .skip) [] .normal, cs := [], h := emptyH }) = true := by kernel_rfl
theorem Try.awake (w : World) : Calls Try.prog 7 #[] w fun e w' => e = .returned (.bool true) ∧ Below w.heap.size w w' :=
  law_of_run2 Try.tabOk Try.extOk Try.mix noCon_ok Try.awake7 (by kernel_rfl) Try.awakeRun (fun _ => rfl)
end Go.Proofs
