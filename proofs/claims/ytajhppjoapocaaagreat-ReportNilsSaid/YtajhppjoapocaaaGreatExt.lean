/- The seat's tables and runs, for the evaluator; no condition. -/
import Derived.Test.YtajhppjoapocaaaGreatTab
import Derived.KernelRfl
set_option linter.unusedSimpArgs false
set_option linter.unusedVariables false
set_option linter.unusedSectionVars false
set_option linter.deprecated false
namespace Go.Proofs
open Go Go.Am Go.RowKit
set_option maxRecDepth 100000
theorem Tryz.fn87 : Tryz.tab.fns.get 87 = some Tryz.f87 := by kernel_rfl
theorem Tryz.fn88 : Tryz.tab.fns.get 88 = some Tryz.f88 := by kernel_rfl
theorem Tryz.fn267 : Tryz.tab.fns.get 267 = some Tryz.f267 := by kernel_rfl
theorem Tryz.n87 : Extern.findNext Tryz.f87 = none := by kernel_rfl
theorem Tryz.e87 : Extern.find Tryz.f87 = some (extFn 2 Tryz.f87) := by kernel_rfl
theorem Tryz.n88 : Extern.findNext Tryz.f88 = none := by kernel_rfl
theorem Tryz.e88 : Extern.find Tryz.f88 = some (extFn 3 Tryz.f88) := by kernel_rfl
theorem Tryz.n267 : Extern.findNext Tryz.f267 = none := by kernel_rfl
theorem Tryz.e267 : Extern.find Tryz.f267 = some (extFn 1 Tryz.f267) := by kernel_rfl
theorem Tryz.extOk : ExtTab Tryz.prog Tryz.tab := ExtTab.list [(87, 2), (88, 3), (267, 1)] rfl (by
  intro x hx
  simp only [List.mem_cons, List.not_mem_nil, or_false] at hx
  rcases hx with rfl | rfl | rfl
  · exact ⟨_, Tryz.fn87, Tryz.n87, Tryz.e87⟩
  · exact ⟨_, Tryz.fn88, Tryz.n88, Tryz.e88⟩
  · exact ⟨_, Tryz.fn267, Tryz.n267, Tryz.e267⟩)
theorem Tryz.mix : Tryz.prog.follows .mixedOrders = true := by kernel_rfl
theorem Tryz.fn3 : Tryz.tab.fns.get 3 = some Tryz.f3 := by kernel_rfl
theorem Tryz.lawRun (n : Int) : allTrue (run2 Tryz.tab noCon 20000 { fr := AFrame.enter Tryz.f3 3 (Tryz.f3.body.getD .skip) [.raw (.int .u8 n)] .normal, cs := [], h := emptyH }) = true := by kernel_rfl
end Go.Proofs
