/- The seat's tables and runs, for the evaluator; no condition. -/
import Derived.Test.YtjffmdfkodkidaaTab
import Derived.KernelRfl
set_option linter.unusedSimpArgs false
set_option linter.unusedVariables false
set_option linter.unusedSectionVars false
set_option linter.deprecated false
namespace Go.Proofs
open Go Go.Am
set_option maxRecDepth 100000
theorem Try.h1 : Try.tab.und.reval Try.prog.underlying = Try.tab.und := by kernel_rfl
theorem Try.h2 : Try.tab.siz.reval (fun t => (Try.prog.info? t).map (·.size)) = Try.tab.siz := by kernel_rfl
theorem Try.h3 : Try.tab.byt.reval (fun t => (Try.prog.info? t).map (·.bytes)) = Try.tab.byt := by kernel_rfl
theorem Try.h4 : Try.tab.zer.reval (fun t => ((Try.prog.info? t).bind (·.zero)).map ofConst) = Try.tab.zer := by kernel_rfl
theorem Try.h5 : Try.tab.agg.reval (fun t => (Try.prog.underlying t).map aggOf) = Try.tab.agg := by kernel_rfl
theorem Try.h6 : Try.tab.held.reval (fun t => some (Try.prog.stoodInHeld t)) = Try.tab.held := by kernel_rfl
theorem Try.h7 : Try.tab.grd.reval (fun t => some (Try.prog.eqGuardType Try.prog.depth t)) = Try.tab.grd := by kernel_rfl
theorem Try.h8 : Try.tab.fns.reval (fun f => Try.prog.funcs[f]?) = Try.tab.fns := by kernel_rfl
theorem Try.h9 : Try.tab.fns.all (fun fn => !(fn.name == "runtime.NumGoroutine")) = true := by kernel_rfl
theorem Try.tabOk : TabOK Try.prog Try.tab := TabOK.of Try.h1 Try.h2 Try.h3 Try.h4 Try.h5 Try.h6 Try.h7 Try.h8 Try.h9
end Go.Proofs
