/- An evaluator over abstract values, proved sound over the model's machine; no condition. Part: Draw4. -/
import Derived.Test.YthgcpbkifhnlpaaGreatAmDraw3
set_option linter.unusedSimpArgs false
set_option linter.unusedVariables false
set_option linter.unusedSectionVars false
set_option linter.deprecated false
namespace Go.Am
open Go.RowKit

section
variable {tab : Tab} {ts : T AV} {h h' : AH} {v : AV}

theorem sliceOp_same {t : TypeId} {x : AV} {lo hi mx : Option Operand} (hp : sliceOp tab ts h t x lo hi mx = .ok (v, h')) : h' = h := by
  unfold sliceOp at hp
  simp only [cond_eq_ite] at hp
  repeat' (first
    | (cases hp; done)
    | (cases hp; rfl)
    | (obtain ⟨_, _, hp⟩ := R.bind_ok.1 hp)
    | split at hp)

theorem builtin_same {b : Builtin} {l : List AV} {at_ : Array TypeId} (hb : b = .len ∨ b = .cap ∨ b = .min ∨ b = .max) (hp : builtin tab b at_ l h = .ok (v, h')) : h' = h := by
  unfold builtin at hp
  rcases hb with rfl | rfl | rfl | rfl
  all_goals (repeat' (first
    | contradiction
    | (cases hp; done)
    | (cases hp; rfl)
    | (obtain ⟨_, _, hp⟩ := R.bind_ok.1 hp)
    | split at hp))

theorem pureOp_same {o : Oper} (hc : cls o ≠ .eff ∧ cls o ≠ .alloc) (hp : pureOp tab ts h o = .ok (v, h')) : h' = h := by
  obtain ⟨dst, op, type, pos, after, guard⟩ := o
  unfold pureOp at hp
  cases op <;> simp only [cls] at hc <;> simp only at hp
  case slice t x lo hi mx =>
    obtain ⟨a, ha, hp1⟩ := R.bind_ok.1 hp
    exact sliceOp_same hp1
  case call c =>
    cases hcc : c.callee with
    | builtin b =>
      rw [hcc] at hp hc
      simp only at hp hc
      obtain ⟨l, hl, hp1⟩ := R.bind_ok.1 hp
      cases b <;> first | exact builtin_same (.inl rfl) hp1 | exact builtin_same (.inr (.inl rfl)) hp1 | exact builtin_same (.inr (.inr (.inl rfl))) hp1 | exact builtin_same (.inr (.inr (.inr rfl))) hp1 | exact absurd rfl hc.1
    | value f => rw [hcc] at hp; cases hp
    | invoke r m => rw [hcc] at hp; cases hp
  all_goals first
    | exact absurd rfl hc.1
    | exact absurd rfl hc.2
    | (repeat' (first
        | (cases hp; done)
        | (cases hp; rfl)
        | (obtain ⟨_, _, hp⟩ := R.bind_ok.1 hp)
        | split at hp))
end
end Go.Am
