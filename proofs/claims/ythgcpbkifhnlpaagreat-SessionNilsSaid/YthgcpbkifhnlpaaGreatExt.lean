/- The seat's tables and runs, for the evaluator; no condition. -/
import Derived.Test.YthgcpbkifhnlpaaGreatTab
import Derived.Test.YthgcpbkifhnlpaaGreatAmRun3
import Derived.KernelRfl
set_option linter.unusedSimpArgs false
set_option linter.unusedVariables false
set_option linter.unusedSectionVars false
set_option linter.deprecated false
namespace Go.Proofs
open Go Go.Am Go.RowKit
set_option maxRecDepth 100000
theorem Tryz.fn165 : Tryz.tab.fns.get 165 = some Tryz.f165 := by kernel_rfl
theorem Tryz.n165 : Extern.findNext Tryz.f165 = none := by kernel_rfl
theorem Tryz.e165 : Extern.find Tryz.f165 = some (extFn 1 Tryz.f165) := by kernel_rfl
theorem Tryz.extOk : ExtTab Tryz.prog Tryz.tab := ExtTab.list [(165, 1)] rfl (by
  intro x hx
  simp only [List.mem_cons, List.not_mem_nil, or_false] at hx
  subst hx
  exact ⟨_, Tryz.fn165, Tryz.n165, Tryz.e165⟩)
theorem Tryz.mix : Tryz.prog.follows .mixedOrders = true := by kernel_rfl
theorem Tryz.fn3 : Tryz.tab.fns.get 3 = some Tryz.f3 := by kernel_rfl
/-- Light is not walked here: it answers true or false. -/
def con4 (f : FuncId) (_ : List AV) (h : AH) : Option (List (AV × AH)) := bif Nat.beq f 4 then some [(.bool true, h), (.bool false, h)] else none
def lawArgs (d1 d2 d3 : Int) (a : Option Addr) (n c : Nat) (now : Int) (s : ByteArray) : List AV :=
  [.agg [.raw (.int .i64 d1), .raw (.int .i64 d2), .raw (.int .i64 d3), .raw (.slice a n c)], .raw (.int .i64 now), .raw (.string s)]
theorem Tryz.lawRun (d1 d2 d3 : Int) (a : Option Addr) (n c : Nat) (now : Int) (s : ByteArray) :
    allTrue3 (run3 Tryz.tab con4 50000 { fr := AFrame.enter Tryz.f3 3 (Tryz.f3.body.getD .skip) (lawArgs d1 d2 d3 a n c now s) .normal, cs := [], h := emptyH }) = true := by kernel_rfl
theorem Tryz.lawMade (d1 d2 d3 : Int) (a : Option Addr) (n c : Nat) (now : Int) (s : ByteArray) :
    made3 (run3 Tryz.tab con4 50000 { fr := AFrame.enter Tryz.f3 3 (Tryz.f3.body.getD .skip) (lawArgs d1 d2 d3 a n c now s) .normal, cs := [], h := emptyH }) =
      [(4, [.agg [.raw (.int .i64 d1), .raw (.int .i64 d2), .raw (.int .i64 d3), .raw (.slice a n c)], .agg [.str [], .str [], .bool false, .bool false, .str [], .int .i64 0]])] := by kernel_rfl
end Go.Proofs
