/- The seat's tables and runs, for the evaluator; no condition. -/
import Derived.Test.YthgcpbkifhnlpaaGreatProg
import Derived.Test.YthgcpbkifhnlpaaGreatAmRun3
import Derived.WalkKit
import Derived.Below
import Derived.LoopTactic
import Derived.Deep.RegionHeld
import Derived.KernelRfl
set_option linter.unusedSimpArgs false
set_option linter.unusedVariables false
set_option linter.unusedSectionVars false
set_option linter.deprecated false
namespace Go.Proofs.YthgcpbkifhnlpaaGreat
open Go.RowKit
set_option linter.unusedVariables false
def LightR (w : World) (e : Ending) (w' : World) : Prop := (∃ b, e = .returned (.bool b)) ∧ Below w.heap.size w w'
theorem cell_up {w : World} {o1 o2 : Obj} {a : Addr} {v : Value} (h : w.cell? a = some v) : ((w.alloc o1).alloc o2).cell? a = some v := by
  have h1 : (w.alloc o1).cell? a = some v := by rw [Go.World.cell?_alloc_some w a o1 (by rw [h]; rfl), h]
  rw [Go.World.cell?_alloc_some _ a o2 (by rw [h1]; rfl), h1]
theorem light_zero (w : World) (d1 d2 d3 : Int) (a : Option Addr) (c : Nat) :
    Calls Tryz.prog 4 #[.agg #[.int .i64 d1, .int .i64 d2, .int .i64 d3, .slice a 0 c], .agg #[.string ⟨#[]⟩, .string ⟨#[]⟩, .bool false, .bool false, .string ⟨#[]⟩, .int .i64 0]] w (LightR w) := by
  have hlow : ∀ o1 o2, Below w.heap.size w ((w.alloc o1).alloc o2) := fun o1 o2 => Below.alloc (Below.alloc (Below.refl _ _) (Nat.le_refl _) _) (by simp) _
  go_enter Tryz.func4, Tryz.ntmps4
  go_wp2
  go_loop [5] (fun i => i = .int .i64 0) (fun _ => 0)
  case atStart => exact rfl
  case round =>
    subst hrel
    go_wp2
    go_ret
    exact ⟨⟨_, rfl⟩, hlow _ _⟩
theorem light_some (w : World) (d1 d2 d3 : Int) (b o n c : Nat) (S : Nat → ByteArray) (hbig : n ≤ 9223372036854775807) (hS : ∀ k, k < n → w.cell? ⟨b, o + k, none⟩ = some (.string (S k))) :
    Calls Tryz.prog 4 #[.agg #[.int .i64 d1, .int .i64 d2, .int .i64 d3, .slice (some ⟨b, o, none⟩) n c], .agg #[.string ⟨#[]⟩, .string ⟨#[]⟩, .bool false, .bool false, .string ⟨#[]⟩, .int .i64 0]] w (LightR w) := by
  have hlow : ∀ o1 o2, Below w.heap.size w ((w.alloc o1).alloc o2) := fun o1 o2 => Below.alloc (Below.alloc (Below.refl _ _) (Nat.le_refl _) _) (by simp) _
  have hcell : ∀ o1 o2 k, k < n → ((w.alloc o1).alloc o2).cell? ⟨b, o + k, none⟩ = some (.string (S k)) := fun o1 o2 k hk => cell_up (hS k hk)
  clear hS
  go_enter Tryz.func4, Tryz.ntmps4
  go_wp2
  · go_loop [5] (fun i => ∃ k : Nat, k ≤ n ∧ i = .int .i64 k) (fun i => n - (intOf i).toNat)
    case atStart => exact ⟨0, Nat.zero_le _, rfl⟩
    case round =>
      obtain ⟨k, hk, rfl⟩ := hrel
      by_cases hlt : k < n
      · have hc := hcell (Obj.cells #[Value.int IntKind.i64 d1, Value.int IntKind.i64 d2, Value.int IntKind.i64 d3, Value.slice (some ⟨b, o, none⟩) n c] 24) (Obj.cells #[.string ⟨#[]⟩, .string ⟨#[]⟩, .bool false, .bool false, .string ⟨#[]⟩, .int .i64 0] 29) k hlt
        have hlt' : (k : Int) < (n : Int) := by omega
        clear hcell
        go_wp2
        · go_ret
          exact ⟨⟨_, rfl⟩, hlow _ _⟩
        · go_round
          case rel => exact ⟨k + 1, by omega, by go_num⟩
          case measure => simp only [intOf]; omega
      · have hlt' : ¬ (k : Int) < (n : Int) := by omega
        clear hcell
        go_wp2
        go_ret
        exact ⟨⟨_, rfl⟩, hlow _ _⟩
  · go_ret
    exact ⟨⟨_, rfl⟩, hlow _ _⟩
theorem light_walk (w : World) (d1 d2 d3 : Int) (a : Option Addr) (n c : Nat) (S : Nat → ByteArray) (hbig : n ≤ 9223372036854775807)
    (hS : 0 < n → ∃ b o, a = some ⟨b, o, none⟩ ∧ ∀ k, k < n → w.cell? ⟨b, o + k, none⟩ = some (.string (S k))) :
    Calls Tryz.prog 4 #[.agg #[.int .i64 d1, .int .i64 d2, .int .i64 d3, .slice a n c], .agg #[.string ⟨#[]⟩, .string ⟨#[]⟩, .bool false, .bool false, .string ⟨#[]⟩, .int .i64 0]] w (LightR w) := by
  by_cases h0 : n = 0
  · subst h0
    exact light_zero w d1 d2 d3 a c
  · obtain ⟨b, o, rfl, h⟩ := hS (by omega)
    exact light_some w d1 d2 d3 b o n c S hbig h
end Go.Proofs.YthgcpbkifhnlpaaGreat
