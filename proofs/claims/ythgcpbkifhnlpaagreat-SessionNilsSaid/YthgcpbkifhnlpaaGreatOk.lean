/- The seat's tables and runs, for the evaluator; no condition. -/
import Derived.Test.YthgcpbkifhnlpaaGreatTab
import Derived.KernelRfl
set_option linter.unusedSimpArgs false
set_option linter.unusedVariables false
set_option linter.unusedSectionVars false
set_option linter.deprecated false
namespace Go.Proofs
open Go Go.Am
set_option maxRecDepth 100000
theorem Tryz.h1 : Tryz.tab.und.reval Tryz.prog.underlying = Tryz.tab.und := by kernel_rfl
theorem Tryz.h2 : Tryz.tab.siz.reval (fun t => (Tryz.prog.info? t).map (·.size)) = Tryz.tab.siz := by kernel_rfl
theorem Tryz.h3 : Tryz.tab.byt.reval (fun t => (Tryz.prog.info? t).map (·.bytes)) = Tryz.tab.byt := by kernel_rfl
theorem Tryz.h4 : Tryz.tab.zer.reval (fun t => ((Tryz.prog.info? t).bind (·.zero)).map ofConst) = Tryz.tab.zer := by kernel_rfl
theorem Tryz.h5 : Tryz.tab.agg.reval (fun t => (Tryz.prog.underlying t).map aggOf) = Tryz.tab.agg := by kernel_rfl
theorem Tryz.h6 : Tryz.tab.held.reval (fun t => some (Tryz.prog.stoodInHeld t)) = Tryz.tab.held := by kernel_rfl
theorem Tryz.h7 : Tryz.tab.grd.reval (fun t => some (Tryz.prog.eqGuardType Tryz.prog.depth t)) = Tryz.tab.grd := by kernel_rfl
theorem Tryz.h8 : Tryz.tab.fns.reval (fun f => Tryz.prog.funcs[f]?) = Tryz.tab.fns := by kernel_rfl
theorem Tryz.h9 : Tryz.tab.fns.all (fun fn => !(fn.name == "runtime.NumGoroutine")) = true := by kernel_rfl
theorem Tryz.tabOk : TabOK Tryz.prog Tryz.tab := TabOK.of Tryz.h1 Tryz.h2 Tryz.h3 Tryz.h4 Tryz.h5 Tryz.h6 Tryz.h7 Tryz.h8 Tryz.h9
end Go.Proofs
