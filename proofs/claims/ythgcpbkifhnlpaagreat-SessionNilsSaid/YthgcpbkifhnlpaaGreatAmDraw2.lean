/- An evaluator over abstract values, proved sound over the model's machine; no condition. Part: Draw2. -/
import Derived.Test.YthgcpbkifhnlpaaGreatAmDraw1
set_option linter.unusedSimpArgs false
set_option linter.unusedVariables false
set_option linter.unusedSectionVars false
set_option linter.deprecated false
namespace Go.Am
open Go.RowKit

theorem hideAll_next : ∀ (l : List (Nat × Nat)) (h : AH), (hideAll h l).next = h.next := by
  intro l
  induction l with
  | nil => intro h; rfl
  | cons x l ih => intro h; simp only [hideAll, ih, AH.next_kill]
theorem hideAll_get : ∀ (l : List (Nat × Nat)) (h : AH) (i : Nat), (hideAll h l).get i = if ∃ x ∈ l, x.2 = i then none else h.get i := by
  intro l
  induction l with
  | nil => intro h i; simp [hideAll]
  | cons x l ih =>
    intro h i
    simp only [hideAll, ih, AH.get_kill]
    by_cases h1 : ∃ y ∈ l, y.2 = i
    · rw [if_pos h1, if_pos (by obtain ⟨y, hy, e⟩ := h1; exact ⟨y, List.mem_cons_of_mem _ hy, e⟩)]
    · rw [if_neg h1]
      by_cases h2 : i = x.2
      · rw [if_pos h2, if_pos ⟨x, List.mem_cons_self, h2.symm⟩]
      · rw [if_neg h2, if_neg]
        rintro ⟨y, hy, e⟩
        rcases List.mem_cons.1 hy with rfl | hy
        · exact h2 e.symm
        · exact h1 ⟨y, hy, e⟩
theorem restore_next : ∀ (l : List (Nat × Nat)) (h h0 : AH), (restore h h0 l).next = h.next := by
  intro l
  induction l with
  | nil => intro h h0; rfl
  | cons x l ih => intro h h0; simp only [restore, ih]
theorem restore_get : ∀ (l : List (Nat × Nat)) (h h0 : AH) (i : Nat), (restore h h0 l).get i = if ∃ x ∈ l, x.2 = i then h0.get i else h.get i := by
  intro l
  induction l with
  | nil => intro h h0 i; simp [restore]
  | cons x l ih =>
    intro h h0 i
    simp only [restore, ih]
    have hg : ({ h with t := h.t.set x.2 (h0.get x.2) } : AH).get i = if i = x.2 then h0.get x.2 else h.get i := T.get_set _ _ _ _
    rw [hg]
    by_cases h1 : ∃ y ∈ l, y.2 = i
    · rw [if_pos h1, if_pos (by obtain ⟨y, hy, e⟩ := h1; exact ⟨y, List.mem_cons_of_mem _ hy, e⟩)]
    · rw [if_neg h1]
      by_cases h2 : i = x.2
      · rw [if_pos h2, if_pos ⟨x, List.mem_cons_self, h2.symm⟩, h2]
      · rw [if_neg h2, if_neg]
        rintro ⟨y, hy, e⟩
        rcases List.mem_cons.1 hy with rfl | hy
        · exact h2 e.symm
        · exact h1 ⟨y, hy, e⟩

section
variable {E : Env} {h h0 h1 h2 : AH} {K : Nat → Prop} {w w' : World}

/-- What lies in h, but not in h0. -/
def Rest (E : Env) (h h0 : AH) (K : Nat → Prop) (b : Nat) : Prop := K b ∨ ∃ i o, h.get i = some o ∧ h0.get i = none ∧ b = E.blk i

theorem HOK.part (H : HOK E h K w) (hs : ∀ i o, h0.get i = some o → h.get i = some o) (hd : ∀ i o, h0.get i = some o → i < h0.next) : HOK E h0 (Rest E h h0 K) w := by
  refine ⟨fun i o hi => H.obj i o (hs i o hi), ?_, fun i j oi oj hi hj => H.inj i j oi oj (hs i oi hi) (hs j oj hj), hd, ?_⟩
  · rintro i o hi hr (hk | ⟨j, oj, hj, hn, e⟩)
    · exact H.nk i o (hs i o hi) hr hk
    · have := H.inj i j o oj (hs i o hi) hj hr e
      subst this
      rw [hi] at hn; cases hn
  · rintro b (hk | ⟨j, oj, hj, hn, e⟩)
    · exact H.kb b hk
    · subst e; exact H.lt hj

theorem HOK.join (H : HOK E h K w) (H1 : HOK E h1 (Rest E h h0 K) w') (hk : Kept (Rest E h h0 K) w w')
    (hg : ∀ i o, h2.get i = some o → h1.get i = some o ∨ (h.get i = some o ∧ h0.get i = none)) (hd : ∀ i o, h2.get i = some o → i < h2.next) : HOK E h2 K w' := by
  have hnr : ∀ o : AO, ¬ o.ro := fun o => id
  refine ⟨?_, ?_, ?_, hd, ?_⟩
  · intro i o hi
    rcases hg i o hi with g | ⟨g, n⟩
    · exact H1.obj i o g
    · obtain ⟨c, hc, ho⟩ := H.obj i o g
      refine ⟨c, ?_, ho⟩
      rw [← hc]
      exact hk.block _ (.inr ⟨i, o, g, n, rfl⟩)
  · intro i o hi hr hK
    rcases hg i o hi with g | ⟨g, n⟩
    · exact H1.nk i o g hr (.inl hK)
    · exact H.nk i o g hr hK
  · intro i j oi oj hi hj hr e
    rcases hg i oi hi with g | ⟨g, n⟩ <;> rcases hg j oj hj with g' | ⟨g', n'⟩
    · exact H1.inj i j oi oj g g' hr e
    · exact absurd (.inr ⟨j, oj, g', n', e⟩) (H1.nk i oi g hr)
    · exact absurd (.inr ⟨i, oi, g, n, e.symm⟩) (H1.nk j oj g' (hnr _))
    · exact H.inj i j oi oj g g' hr e
  · intro b hb
    exact H1.kb b (.inl hb)
theorem Kept.part (hk : Kept (Rest E h h0 K) w w') : Kept K w w' :=
  ⟨hk.os, hk.tape, hk.output, hk.size, fun b hb => hk.block b (.inl hb)⟩
end
end Go.Am
