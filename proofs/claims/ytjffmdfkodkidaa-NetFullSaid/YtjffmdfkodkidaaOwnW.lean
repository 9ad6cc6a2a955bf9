/- The seat's tables and runs, for the evaluator; no condition. -/
import Derived.Test.YtjffmdfkodkidaaChecked
import Derived.WalkKit
import Derived.Below
import Derived.Laws.MakeOwn
import Derived.Laws.CopyOwn
import Derived.KernelRfl
import Derived.Deep.RegionHeld
set_option linter.unusedSimpArgs false
set_option linter.unusedVariables false
set_option linter.unusedSectionVars false
set_option linter.deprecated false
namespace Go.Proofs.Ytjffmdfkodkidaa
open Go.RowKit
set_option linter.unusedVariables false
theorem size5 : Try.t5.size = 1 := by kernel_rfl
theorem bytes5 : Try.t5.bytes = 1 := by kernel_rfl
theorem cell_alloc_lt {w : World} {o : Obj} {a : Addr} {v : Value} (h : w.cell? a = some v) : (w.alloc o).cell? a = some v := by
  rw [Go.World.cell?_alloc_some w a o (by rw [h]; rfl), h]
theorem setRow_alloc (w : World) (z cs : Array Value) (t : TypeId) : (w.alloc (.cells z t)).setRow w.heap.size cs = w.alloc (.cells cs t) := by
  unfold World.setRow World.alloc
  simp only [World.mk.injEq, and_true]
  apply Array.ext_getElem?
  intro i
  rw [Array.getElem?_modify, Array.getElem?_push, Array.getElem?_push]
  by_cases h : i = w.heap.size
  · simp [h]
  · simp [h, Ne.symm h]
theorem copyRun (a : Option Addr) (n c : Nat) (cs : List Value) (w : World) (hn : cs.length = n) (hc : ∀ v ∈ cs, v.oneCell' = true)
    (ha : 0 < n → ∃ ad, a = some ad ∧ ∀ j v, cs[j]? = some v → w.cell? (ad.add j) = some v) :
    (Builtin.copy_ #[22, 22] 3 #[.slice (some ⟨w.heap.size, 0, none⟩) n n, .slice a n c]).run Try.prog (w.alloc (.cells (madeCells #[.int .u8 0] (n * Try.t5.size)) 5)) = .ok (goInt n) (w.alloc (.cells cs.toArray 5)) := by
  have hs : (Try.prog.info? 5).map (·.size) = some 1 := by kernel_rfl
  by_cases h0 : n = 0
  · subst h0
    obtain rfl : cs = [] := List.eq_nil_of_length_eq_zero hn
    rw [run_copy_none (P := Try.prog) _ 22 22 3 5 _ _ _ _ _ _ Try.underlying22 hs rfl]
    simp [madeCells, Array.range_zero']
  · obtain ⟨ad, rfl, hcell⟩ := ha (by omega)
    have hnew : ∀ o : Obj, (w.alloc o).heap[w.heap.size]? = some o := fun o => by
      show (w.heap.push o)[w.heap.size]? = some o
      simp
    rw [run_copy_row (P := Try.prog) _ 22 22 3 5 w.heap.size 0 n n ad n c _ 5 cs Try.underlying22 hs (hnew (.cells (madeCells #[.int .u8 0] (n * Try.t5.size)) 5)) (by simp [hn]) (fun j v hj => cell_alloc_lt (hcell j v hj)) (by simp [size_madeCells, size5, hn]) hc]
    rw [hn, setRow_alloc]
    simp [size_madeCells, size5, hn, List.drop_eq_nil_of_le]
theorem own_walk (a : Option Addr) (n c : Nat) (cs : List Value) (w : World) (hn : cs.length = n) (hb : n ≤ 281474976710656) (hc : ∀ v ∈ cs, v.oneCell' = true)
    (ha : 0 < n → ∃ ad, a = some ad ∧ ∀ j v, cs[j]? = some v → w.cell? (ad.add j) = some v) :
    Calls Try.prog 23 #[.slice a n c] w fun e w' => e = .returned (.slice (some ⟨w.heap.size, 0, none⟩) n n) ∧ w' = w.alloc (.cells cs.toArray 5) := by
  have hmk := fun w => run_make (P := Try.prog) w 22 5 Try.t5 (.int .u8 0) Try.underlying22 (by kernel_rfl) (by kernel_rfl) .i64 .i64 (n : Int) (n : Int) (by omega) (by omega) (by rw [bytes5]; omega) (by omega)
  have hcp := copyRun a n c cs w hn hc ha
  clear ha hn
  go_enter Try.func23, Try.ntmps23
  go_wp2
  go_ret
  exact ⟨rfl, rfl⟩
end Go.Proofs.Ytjffmdfkodkidaa
