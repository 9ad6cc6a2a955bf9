/- An evaluator over abstract values, proved sound over the model's machine; no condition. Part: Draw5. -/
import Derived.Test.YthgcpbkifhnlpaaGreatAmDraw4
set_option linter.unusedSimpArgs false
set_option linter.unusedVariables false
set_option linter.unusedSectionVars false
set_option linter.deprecated false
namespace Go.Am
open Go.RowKit

/-- What a floating operation that has not come yet will give, and why: 'o' looked at tj. -/
def Kind (tab : Tab) (ops : Array Oper) (s : DS) (j : Nat) (o : Oper) (tj : T AV) (v : AV) : Prop :=
  (wanted ops o tj = .ok false ∧ v = .tup [] ∧ ∀ x ∈ s.allocs, x.1 ≠ j) ∨
  (wanted ops o tj = .ok true ∧
    (((∃ h1, pureOp tab tj { t := .e, next := 0 } o = .ok (v, h1) ∧ h1.next = 0) ∧ ∀ x ∈ s.allocs, x.1 ≠ j) ∨
     (∃ b h1 ob, ((j, b) ∈ s.allocs ∧ ∀ x ∈ s.allocs, x.1 = j → x.2 = b) ∧ pureOp tab tj { t := .e, next := b } o = .ok (v, h1) ∧ h1.next = b + 1 ∧ h1.get b = some ob ∧ s.h.get b = some ob) ∨
     (((j, tj, v) ∈ s.reads ∧ ∀ x ∈ s.allocs, x.1 ≠ j) ∧ cls o ≠ .eff ∧ cls o ≠ .alloc ∧ ∃ hr, pureOp tab tj hr o = .ok (v, hr) ∧ ∀ b ob, hr.get b = some ob → b < hr.next ∧ s.h.get b = some ob ∧ ∀ x ∈ s.allocs, x.2 ≠ b)))
/-- What it looks at. -/
def Look (ops : Array Oper) (ts0 : T AV) (s : DS) (j : Nat) (o : Oper) (tj : T AV) : Prop :=
  ∀ t ∈ looks ops o, (∃ i oi, ops[i]? = some oi ∧ oi.dst = some t ∧ i ∈ preOf o ∧ (s.anc.get i).isSome ∧ tj.get t = s.ts.get t) ∨
    (tj.get t = ts0.get t ∧ ∀ i oi a, ops[i]? = some oi → oi.dst = some t → s.anc.get i = some a → i = j ∨ j ∈ a)
def Pend (tab : Tab) (ops : Array Oper) (nt : Nat) (ts0 : T AV) (s : DS) (j : Nat) : Prop :=
  ∃ o tj v, ops[j]? = some o ∧ (∀ d, o.dst = some d → d < nt → s.ts.get d = some v) ∧ Look ops ts0 s j o tj ∧ Kind tab ops s j o tj v

structure DInv (tab : Tab) (ops : Array Oper) (nt : Nat) (ts0 : T AV) (lo : Nat) (s : DS) (X : Nat → Prop) : Prop where
  cx : ∀ j, X j → (s.anc.get j).isSome
  xdn : ∀ j a, X j → s.anc.get j = some a → ∀ i ∈ a, X i
  op : ∀ j, (s.anc.get j).isSome → ∃ o, ops[j]? = some o
  shape : ∀ j a o, s.anc.get j = some a → ops[j]? = some o → (∀ i ∈ preOf o, i ∈ a ∧ (s.anc.get i).isSome) ∧ ∀ i ∈ a, i ∈ preOf o ∨ ∃ p ∈ preOf o, ∃ ap, s.anc.get p = some ap ∧ i ∈ ap
  uniq : ∀ i j oi oj d, (s.anc.get i).isSome → ops[i]? = some oi → ops[j]? = some oj → oi.dst = some d → oj.dst = some d → i = j
  tsC : ∀ t, (∀ j o, (s.anc.get j).isSome → ops[j]? = some o → o.dst ≠ some t) → s.ts.get t = ts0.get t
  pend : ∀ j, (s.anc.get j).isSome → ¬ X j → Pend tab ops nt ts0 s j
  al : ∀ x ∈ s.allocs, x.2 < s.h.next ∧ (s.anc.get x.1).isSome ∧ lo ≤ x.2
  nx : lo ≤ s.h.next
  tsw : ∀ t, nt ≤ t → s.ts.get t = none
  alu : ∀ x ∈ s.allocs, ∀ y ∈ s.allocs, x.2 = y.2 → x = y
  hd : ∀ i o, s.h.get i = some o → i < s.h.next

theorem memN_iff {i : Nat} {l : List Nat} : memN i l = true ↔ i ∈ l := by
  unfold memN
  rw [List.any_eq_true]
  constructor
  · rintro ⟨x, hx, hb⟩
    rw [Nat.eq_of_beq_eq_true hb]; exact hx
  · intro h
    exact ⟨i, h, Nat.beq_refl i⟩

theorem writersIn_ok {anc : T (List Nat)} {t : Tmp} {pre : List Nat} : ∀ (l : List Oper) (k : Nat), writersIn anc t pre k l = true → ∀ j o, l[j]? = some o → o.dst = some t → (anc.get (k + j)).isSome → k + j ∈ pre := by
  intro l
  induction l with
  | nil => intro k _ j o hj; simp at hj
  | cons x l ih =>
    intro k h j o hj hd hc
    simp only [writersIn, Bool.and_eq_true] at h
    cases j with
    | zero =>
      simp only [List.getElem?_cons_zero, Option.some.injEq] at hj
      subst hj
      have h1 := h.1
      rw [hd] at h1
      simp only [Nat.add_zero] at hc ⊢
      have : Nat.beq t t = true := Nat.beq_refl t
      simp only [this, hc, Bool.and_self, cond_true] at h1
      exact memN_iff.1 h1
    | succ j =>
      have := ih (k + 1) h.2 j o (by simpa using hj) hd (by rw [show k + 1 + j = k + (j + 1) from by omega]; exact hc)
      rw [show k + 1 + j = k + (j + 1) from by omega] at this
      exact this
theorem dstFree_ok {anc : T (List Nat)} {ops : Array Oper} {i : Nat} {a : Tmp} {an : List Nat} : ∀ (l : List Oper) (k : Nat), dstFree anc ops i a an k l = true → ∀ j o, l[j]? = some o →
    (o.dst = some a → i = k + j) ∧ ((anc.get (k + j)).isSome → a ∈ looks ops o → k + j ∈ an) := by
  intro l
  induction l with
  | nil => intro k _ j o hj; simp at hj
  | cons x l ih =>
    intro k h j o hj
    simp only [dstFree, Bool.and_eq_true] at h
    obtain ⟨⟨h1, h2⟩, h3⟩ := h
    cases j with
    | zero =>
      simp only [List.getElem?_cons_zero, Option.some.injEq] at hj
      subst hj
      simp only [Nat.add_zero]
      constructor
      · intro hd
        rw [hd] at h1
        have : Nat.beq a a = true := Nat.beq_refl a
        simp only [this, cond_true] at h1
        exact Nat.eq_of_beq_eq_true h1
      · intro hc hl
        simp only [hc, cond_true, Bool.or_eq_true, Bool.not_eq_true'] at h2
        rcases h2 with h2 | h2
        · exact memN_iff.1 h2
        · rw [memN_iff.2 hl] at h2; cases h2
    | succ j =>
      have := ih (k + 1) h3 j o (by simpa using hj)
      rw [show k + 1 + j = k + (j + 1) from by omega] at this
      exact this

theorem opOk_ok {anc : T (List Nat)} {ops : Array Oper} {i : Nat} {o : Oper} (h : opOk anc ops i o = true) :
    (∀ t ∈ looks ops o, ∀ j oj, ops[j]? = some oj → oj.dst = some t → (anc.get j).isSome → j ∈ preOf o) ∧
    (∀ d, o.dst = some d → ∀ j oj, ops[j]? = some oj → (oj.dst = some d → i = j) ∧ ((anc.get j).isSome → d ∈ looks ops oj → j ∈ ancOf anc o)) := by
  unfold opOk at h
  simp only [Bool.and_eq_true, List.all_eq_true] at h
  constructor
  · intro t ht j oj hj hd hc
    have := writersIn_ok ops.toList 0 (h.1 t ht) j oj (by simpa using hj) hd (by simpa using hc)
    simpa using this
  · intro d hd j oj hj
    have h2 := h.2
    rw [hd] at h2
    have := dstFree_ok ops.toList 0 h2 j oj (by simpa using hj)
    simpa using this
theorem isReady_ok {anc : T (List Nat)} {i : Nat} {o : Oper} (h : isReady anc i o = true) : anc.get i = none ∧ ∀ j ∈ preOf o, (anc.get j).isSome := by
  unfold isReady at h
  simp only [Bool.and_eq_true, List.all_eq_true] at h
  exact ⟨by simpa using h.1, h.2⟩
end Go.Am
