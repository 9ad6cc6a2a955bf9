/- An evaluator over abstract values, proved sound over the model's machine; no condition. Part: Draw13. -/
import Derived.Test.YthgcpbkifhnlpaaGreatAmDraw12
set_option linter.unusedSimpArgs false
set_option linter.unusedVariables false
set_option linter.unusedSectionVars false
set_option linter.deprecated false
namespace Go.Am
open Go.RowKit

def Xof (listed : Array Bool) (j : Nat) : Prop := listed.getD j false = true
def unl (n : Nat) (listed : Array Bool) : Nat := ((List.range n).filter fun i => !listed.getD i false).length

theorem filter_drop {p q : Nat → Bool} {i : Nat} : ∀ (l : List Nat), (∀ j, q j = true → p j = true) → i ∈ l → p i = true → q i = false → (l.filter q).length + 1 ≤ (l.filter p).length := by
  intro l
  induction l with
  | nil => intro _ h; cases h
  | cons x l ih =>
    intro hqp hi hp hq
    rcases List.mem_cons.1 hi with rfl | hi
    · rw [List.filter_cons, List.filter_cons, if_pos hp, if_neg (by rw [hq]; simp), List.length_cons]
      have : (l.filter q).length ≤ (l.filter p).length := by
        rw [← List.countP_eq_length_filter, ← List.countP_eq_length_filter]
        exact List.countP_mono_left (fun x _ => hqp x)
      omega
    · have := ih hqp hi hp hq
      rw [List.filter_cons, List.filter_cons]
      by_cases h1 : q x = true
      · rw [if_pos h1, if_pos (hqp x h1)]; simp only [List.length_cons]; omega
      · rw [if_neg h1]
        by_cases h2 : p x = true
        · rw [if_pos h2]; simp only [List.length_cons]; omega
        · rw [if_neg h2]; exact this

theorem Xof_set {listed : Array Bool} {i : Nat} (hi : i < listed.size) : Xof (listed.setIfInBounds i true) = fun j => Xof listed j ∨ j = i := by
  funext j
  apply propext
  unfold Xof
  rw [Array.getD_eq_getD_getElem?, Array.getD_eq_getD_getElem?, Array.getElem?_setIfInBounds]
  by_cases h : i = j
  · subst h
    simp [hi]
  · have : ¬ j = i := fun e => h e.symm
    simp [h, this]
theorem unl_set {n : Nat} {listed : Array Bool} {i : Nat} (hi : i < n) (hs : i < listed.size) (hx : ¬ Xof listed i) : unl n (listed.setIfInBounds i true) + 1 ≤ unl n listed := by
  refine filter_drop _ ?_ (List.mem_range.2 hi) (by unfold Xof at hx; simpa using hx) ?_
  · intro j hj
    have h1 : ¬ Xof (listed.setIfInBounds i true) j := by unfold Xof; simpa using hj
    rw [Xof_set hs] at h1
    have : ¬ Xof listed j := fun h => h1 (.inl h)
    unfold Xof at this
    simpa using this
  · have : Xof (listed.setIfInBounds i true) i := by rw [Xof_set hs]; exact .inr rfl
    unfold Xof at this
    simp [this]
theorem unl_zero {n : Nat} {listed : Array Bool} (h : unl n listed = 0) : ∀ j, j < n → Xof listed j := by
  intro j hj
  unfold unl at h
  have := List.eq_nil_of_length_eq_zero h
  rw [List.filter_eq_nil_iff] at this
  have := this j (List.mem_range.2 hj)
  unfold Xof
  simpa using this
end Go.Am
