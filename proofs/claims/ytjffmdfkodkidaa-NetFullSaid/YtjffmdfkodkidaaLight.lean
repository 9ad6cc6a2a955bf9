/- The seat's tables and runs, for the evaluator; no condition. -/
import Derived.Test.YtjffmdfkodkidaaLook
import Derived.LoopTactic
set_option linter.unusedSimpArgs false
set_option linter.unusedVariables false
set_option linter.unusedSectionVars false
set_option linter.deprecated false
namespace Go.Proofs.Ytjffmdfkodkidaa
open Go.RowKit
set_option linter.unusedVariables false

def LightR (most : Int) (len : Nat) (N : Nat → Nat) (e : Ending) : Prop := ∃ bo, e = .returned (.bool bo) ∧ (bo = true → len ≤ most ∧ ∀ j, j < len → N j ≤ 300)
theorem light_some (b off len cap : Nat) (most : Int) (A : Nat → Option Addr) (N C : Nat → Nat) (w : World) (hbig : len ≤ 9223372036854775807)
    (hc : ∀ j, j < len → w.cell? ⟨b, off + j * 5 + 4, none⟩ = some (.slice (A j) (N j) (C j))) :
    Calls Try.prog 17 #[.slice (some ⟨b, off, none⟩) len cap, .int .i64 most] w fun e w' => LightR most len N e ∧ w' = w := by
  by_cases hm : most < (len : Int)
  · go_enter Try.func17, Try.ntmps17
    go_wp2
    go_ret
    exact ⟨⟨false, rfl, (by simp)⟩, rfl⟩
  · have hm' : (len : Int) ≤ most := by omega
    go_enter Try.func17, Try.ntmps17
    go_wp2
    go_loop [5] (fun i => ∃ k : Nat, k ≤ len ∧ i = .int .i64 k ∧ ∀ j, j < k → N j ≤ 300) (fun i => len - (intOf i).toNat)
    case atStart => exact ⟨0, Nat.zero_le _, rfl, by omega⟩
    case round =>
      obtain ⟨k, hk, rfl, hall⟩ := hrel
      have hcell : k < len → w.cell? ⟨b, off + k * 5 + 4, none⟩ = some (.slice (A k) (N k) (C k)) := fun h => hc k h
      go_wp2
      · have hlt : k < len := by assumption
        have h3 : (300 : Int) < (N k : Int) := by assumption
        go_ret
        exact ⟨⟨false, rfl, (by simp)⟩, rfl⟩
      · have hlt : k < len := by assumption
        have h3 : ¬ (300 : Int) < (N k : Int) := by first | assumption | omega
        go_round
        case rel => exact ⟨k + 1, by omega, by go_num, fun j hj => by rcases Nat.lt_or_eq_of_le (Nat.le_of_lt_succ hj) with h | h; exact hall j h; subst h; omega⟩
        case measure => simp only [intOf]; omega
      · have hge : ¬ k < len := by first | assumption | omega
        have : k = len := by omega
        subst this
        go_ret
        exact ⟨⟨true, rfl, fun _ => ⟨hm', hall⟩⟩, rfl⟩
theorem light_none (cap : Nat) (a : Option Addr) (most : Int) (N : Nat → Nat) (w : World) : Calls Try.prog 17 #[.slice a 0 cap, .int .i64 most] w fun e w' => LightR most 0 N e ∧ w' = w := by
  by_cases hm : most < 0
  · go_enter Try.func17, Try.ntmps17
    go_wp2
    go_ret
    exact ⟨⟨false, rfl, (by simp)⟩, rfl⟩
  · have hm' : (0 : Int) ≤ most := by omega
    go_enter Try.func17, Try.ntmps17
    go_wp2
    go_loop [5] (fun i => i = .int .i64 0) (fun _ => 0)
    case atStart => exact rfl
    case round =>
      subst hrel
      go_wp2
      go_ret
      exact ⟨⟨true, rfl, fun _ => ⟨by simpa using hm', by omega⟩⟩, rfl⟩
end Go.Proofs.Ytjffmdfkodkidaa
