/- The seat's tables and runs, for the evaluator; no condition. -/
import Derived.Test.YtjffmdfkodkidaaLight
import Derived.Test.YtjffmdfkodkidaaAwake
set_option linter.unusedSimpArgs false
set_option linter.unusedVariables false
set_option linter.unusedSectionVars false
set_option linter.deprecated false
namespace Go.Proofs.Ytjffmdfkodkidaa
open Go.RowKit
set_option linter.unusedVariables false

theorem Net.alloc {B : Nat} {w : World} {bm : Nat} {v : Value} {L : List (Nat × List Int)} {sent : Int} (H : Net B w bm v L sent) (o : Obj) : Net B (w.alloc o) bm v L sent := by
  have hold : ∀ k x, w.heap[k]? = some x → (w.alloc o).heap[k]? = some x := fun k x h => by
    rw [heap_alloc_old w o (Array.getElem?_eq_some_iff.1 h).1, h]
  exact ⟨H.base, hold _ _ H.me, World.ownsRow.alloc H.row o, fun x hx => ⟨(H.pk x hx).low, hold _ _ (H.pk x hx).at_⟩, by have := H.size; simp; omega⟩
theorem zeroCells (n : Nat) : madeCells #[.int .u8 0] (n * 1) = (List.replicate n (Value.int .u8 0)).toArray := by
  simp only [madeCells, Nat.mul_one]
  apply Array.ext_getElem?
  intro i
  by_cases h : i < n
  · simp [h, Nat.mod_one]
  · simp [h]
def bigCells (n : Nat) : Array Value := (bytesV (List.replicate n 0)).toArray
theorem big_made (n : Nat) : madeCells #[.int .u8 0] (n * Try.t5.size) = bigCells n := by
  rw [size5, zeroCells]
  simp [bigCells, List.map_replicate]
theorem make_big (n : Nat) (hn : n ≤ 2000000) (w : World) : (Instr.makeSlice 22 (.int .i64 (n : Int)) (.int .i64 (n : Int))).run Try.prog w = .ok (.slice (some ⟨w.heap.size, 0, none⟩) n n) (w.alloc (.cells (bigCells n) 5)) := by
  rw [run_make (P := Try.prog) w 22 5 Try.t5 (.int .u8 0) Try.underlying22 (by kernel_rfl) (by kernel_rfl) .i64 .i64 (n : Int) (n : Int) (by omega) (by omega) (by rw [bytes5]; omega) (by omega)]
  simp only [Int.toNat_natCast]
  rw [show (Value.int IntKind.u8 0).cells = #[.int .u8 0] from rfl, big_made]
theorem make_long (w : World) : (Instr.makeSlice 22 (.int .i64 1048593) (.int .i64 1048593)).run Try.prog w = .ok (.slice (some ⟨w.heap.size, 0, none⟩) 1048593 1048593) (w.alloc (.cells (bigCells 1048593) 5)) := make_big 1048593 (by omega) w
theorem make_fits (w : World) : (Instr.makeSlice 22 (.int .i64 1048592) (.int .i64 1048592)).run Try.prog w = .ok (.slice (some ⟨w.heap.size, 0, none⟩) 1048592 1048592) (w.alloc (.cells (bigCells 1048592) 5)) := make_big 1048592 (by omega) w
/-- Only what was made since may have changed. -/
theorem Chg.below {S : Nat → Prop} {w w' : World} (h : Chg S w w') {B : Nat} (hB : B ≤ w.heap.size) (hS : ∀ k, S k → B ≤ k) : Below B w w' :=
  ⟨h.os, h.tape, h.output, h.size, fun k hk => h.block k (by omega) (fun e => by have := hS k e; omega)⟩

theorem new_net' (w : World) (B bm : Nat) (hB : B ≤ w.heap.size) (hb : bm = w.heap.size) : Net B (w.alloc (.cells #[.slice none 0 0, .int .i64 0] 50)) bm (.slice none 0 0) [] 0 := by
  subst hb
  exact new_net w B hB
set_option maxHeartbeats 4000000 in
theorem netNils_walk (k i at_ by_ : Int) (a : Option Addr) (n c : Nat) (w : World) :
    Calls Try.prog 6 #[.agg #[.int .i64 k, .int .i64 i, .int .i64 at_, .int .u8 by_, .slice a n c]] w fun e w' => e = .returned (.bool true) ∧ Below w.heap.size w w' := by
  have hml := make_long
  have hmf := make_fits
  obtain ⟨zs, hzl, hzb⟩ : ∃ zs : List Int, zs.length = 1048592 ∧ bigCells 1048592 = (bytesV zs).toArray := ⟨_, List.length_replicate, rfl⟩
  go_enter Try.func6, Try.ntmps6
  go_wp2_with (go_at_call 17; refine (light_some (w.heap.size + 1) 0 1 1 1 (fun _ => a) (fun _ => n) (fun _ => c) _ (by omega) ?_).mono ?_)
  · intro j hj
    obtain rfl : j = 0 := by omega
    exact World.cell?_alloc_at _ _ _ _ (by simp)
  · rintro e w' ⟨⟨bo, rfl, hbo⟩, rfl⟩
    clear hbo
    cases bo
    · go_wp2_with (go_at_call 7; refine (Try.awake _).mono ?_; rintro e w' ⟨rfl, hw⟩)
      go_ret
      exact ⟨rfl, (Below.alloc (Below.alloc (Below.refl _ _) (Nat.le_refl _) _) (by simp) _).trans (hw.mono (by simp; omega))⟩
    · have hp : w.heap.size < (w.alloc (.cells #[.int .i64 k, .int .i64 i, .int .i64 at_, .int .u8 by_, .slice a n c] 43)).heap.size := by simp
      go_wp2_with (go_at_call 21; refine (clear_nil _).mono ?_; rintro e w' ⟨rfl, rfl⟩)
      go_wp2_with (go_at_call 13; refine (take_nil _ _).mono ?_; rintro e w' ⟨rfl, rfl⟩)
      go_wp2_with (go_at_call 11; refine (look_nil _ _).mono ?_; rintro e w' ⟨rfl, rfl⟩)
      go_wp2_with (go_at_call 8; refine (new_ok _).mono ?_; rintro e w' ⟨rfl, rfl⟩)
      go_wp2_with (go_at_call 9; refine (send_nil _ _ _ _).mono ?_; rintro e w' ⟨rfl, rfl⟩)
      go_wp2_with (go_at_call 22; refine (drop_nil _ _).mono ?_; rintro e w' ⟨rfl, rfl⟩)
      go_wp2_with (go_at_call 10; refine (double_nil _ _).mono ?_; rintro e w' ⟨rfl, rfl⟩)
      go_wp2_with (go_at_call 12; refine (spoil_nil _ _ _ _).mono ?_; rintro e w' ⟨rfl, rfl⟩)
      go_wp2_with (go_at_call 15; refine (len_nil _).mono ?_; rintro e w' ⟨rfl, rfl⟩)
      go_wp2_with (go_at_call 16; refine (sent_nil _).mono ?_; rintro e w' ⟨rfl, rfl⟩)
      go_wp2_with (go_at_call 18; refine (copy_nil _).mono ?_; rintro e w' ⟨rfl, rfl⟩)
      go_wp2_with (go_at_call 9; refine (send_long _ _ _ _ _ (by decide)).mono ?_; rintro e w' ⟨rfl, rfl⟩)
      go_at_call 9
      refine (send_ok w.heap.size _ (w.heap.size + 1 + 1) (.slice none 0 0) [] 0 ?_ (by decide) (some ⟨w.heap.size + 1 + 1 + 1 + 1, 0, none⟩) 1048592 1048592 zs hzl (by decide) (fun _ => ⟨_, rfl, ?_⟩)).mono ?_
      · exact Net.alloc (Net.alloc (new_net' _ w.heap.size _ (by simp; omega) (by simp)) _) _
      · intro j v hj
        rw [addr_add, World.cell?_alloc_at _ _ _ _ (by simp)]
        simpa using hj
      · rintro e w' ⟨rfl, v', p, hN, hC⟩
        have hlow : Below w.heap.size w w' := by
          refine Below.trans ?_ (hC.below (by simp; omega) (fun k hk => ?_))
          · exact Below.alloc (Below.alloc (Below.alloc (Below.alloc (Below.alloc (Below.refl _ _) (Nat.le_refl _) _) (by simp) _) (by simp; omega) _) (by simp; omega) _) (by simp; omega) _
          · rcases hk with rfl | hk
            · omega
            · cases hk
        clear hN hC
        go_wp2_with (go_at_call 7; refine (Try.awake _).mono ?_; rintro e w2 ⟨rfl, hw⟩)
        go_ret
        exact ⟨rfl, hlow.trans (hw.mono hlow.size)⟩
end Go.Proofs.Ytjffmdfkodkidaa
