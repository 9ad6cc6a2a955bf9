/- An evaluator over abstract values, proved sound over the model's machine; no condition. Part: Draw7. -/
import Derived.Test.YthgcpbkifhnlpaaGreatAmDraw6
set_option linter.unusedSimpArgs false
set_option linter.unusedVariables false
set_option linter.unusedSectionVars false
set_option linter.deprecated false
namespace Go.Am
open Go.RowKit

section
variable {tab : Tab} {ops : Array Oper} {nt lo : Nat} {ts0 : T AV} {s s' : DS} {X : Nat → Prop} {i : Nat} {o : Oper} {v : AV}

theorem drawFloat_ok (hf : drawFloat tab ops nt i o s = .ok (some s')) (hi : ops[i]? = some o) (hr : isReady s.anc i o = true) (H : DInv tab ops nt ts0 lo s X) : DInv tab ops nt ts0 lo s' X := by
  unfold drawFloat at hf
  obtain ⟨_, hck, hf1⟩ := R.bind_ok.1 hf
  have hok := R.check_ok.1 hck
  obtain ⟨b, hb, hf2⟩ := R.bind_ok.1 hf1
  clear hf hf1
  have hnoA : ∀ x ∈ s.allocs, x.1 ≠ i := by
    intro x hx e
    have := (H.al x hx).2.1
    rw [e, (isReady_ok hr).1] at this
    cases this
  cases b with
  | false =>
    simp only [Bool.not_false, if_true] at hf2
    cases hf2
    exact H.float hi hr hok rfl rfl (fun _ _ h => h) (Nat.le_refl _) (.inl rfl) (fun _ h => h) H.hd (.inl ⟨hb, rfl, hnoA⟩)
  | true =>
    simp only [Bool.not_true, Bool.false_eq_true, if_false] at hf2
    split at hf2
    · cases hf2
    · -- a block
      obtain ⟨⟨u, h1⟩, hp, hf3⟩ := R.bind_ok.1 hf2
      obtain ⟨_, hn, hf4⟩ := R.bind_ok.1 hf3
      obtain ⟨ob, hob, hf5⟩ := R.bind_ok.1 hf4
      cases hf5
      have hn := Nat.eq_of_beq_eq_true (R.check_ok.1 hn)
      have hob := R.of_ok.1 hob
      refine H.float (v := u) hi hr hok rfl rfl ?_ (by simp) (.inr ⟨rfl, rfl⟩) (fun _ h => h) ?_ (.inr ⟨hb, .inr (.inl ⟨s.h.next, h1, ob, ⟨List.mem_cons_self, ?_⟩, hp, hn, hob, ?_⟩)⟩)
      · intro b ob' hg
        have := H.hd b ob' hg
        simp only
        rw [AH.get_new, if_neg (by omega)]
        exact hg
      · intro b ob' hg
        simp only at hg ⊢
        rw [AH.get_new] at hg
        split at hg
        · simp only [AH.next_new]; omega
        · have := H.hd b ob' hg
          simp only [AH.next_new]; omega
      · intro x hx e
        rcases List.mem_cons.1 hx with rfl | hx
        · rfl
        · exact absurd e (hnoA x hx)
      · simp only
        rw [AH.get_new, if_pos rfl]
    · -- pure, or a read
      rename_i hne hna
      split at hf2
      · rename_i u h1 hm
        obtain ⟨_, hn, hf3⟩ := R.bind_ok.1 hf2
        cases hf3
        have hn := Nat.eq_of_beq_eq_true (R.check_ok.1 hn)
        have hp : pureOp tab s.ts { t := .e, next := 0 } o = .ok (u, h1) := by
          split at hm
          · exact hm
          · cases hm
        exact H.float (v := u) hi hr hok rfl rfl (fun _ _ h => h) (Nat.le_refl _) (.inl rfl) (fun _ h => h) H.hd (.inr ⟨hb, .inl ⟨⟨h1, hp, hn⟩, hnoA⟩⟩)
      · split at hf2
        · rename_i u h1 hp
          cases hf2
          have hsame := pureOp_same (tab := tab) (o := o) ⟨fun e => hne (by rw [e]), fun e => hna (by rw [e])⟩ hp
          subst hsame
          refine H.float (v := u) hi hr hok rfl rfl (fun _ _ h => h) (Nat.le_refl _) (.inl rfl) (fun _ h => List.mem_cons_of_mem _ h) H.hd
            (.inr ⟨hb, .inr (.inr ⟨⟨List.mem_cons_self, hnoA⟩, fun e => hne (by rw [e]), fun e => hna (by rw [e]), _, hp, ?_⟩)⟩)
          intro b ob hg
          rw [hideAll_get] at hg
          split at hg
          · cases hg
          · rename_i hnx
            refine ⟨by rw [hideAll_next]; exact H.hd b ob hg, hg, fun x hx e => hnx ⟨x, hx, e⟩⟩
        · cases hf2

theorem drawPass_ok : ∀ (l : List Oper) (k : Nat) (s s' : DS), (∀ j o, l[j]? = some o → ops[k + j]? = some o) → drawPass tab ops nt k l s = .ok s' → DInv tab ops nt ts0 lo s X → DInv tab ops nt ts0 lo s' X := by
  intro l
  induction l with
  | nil => intro k s s' _ h H; simp only [drawPass] at h; cases h; exact H
  | cons o l ih =>
    intro k s s' hl h H
    have hl' : ∀ j o', l[j]? = some o' → ops[k + 1 + j]? = some o' := by
      intro j o' hj
      have := hl (j + 1) o' (by simpa using hj)
      rw [show k + 1 + j = k + (j + 1) from by omega]; exact this
    simp only [drawPass] at h
    by_cases hr : isReady s.anc k o = true
    · simp only [hr, cond_true] at h
      obtain ⟨x, hx, h1⟩ := R.bind_ok.1 h
      cases x with
      | none => exact ih (k + 1) s s' hl' h1 H
      | some s1 => exact ih (k + 1) s1 s' hl' h1 (drawFloat_ok hx (by simpa using hl 0 o rfl) hr H)
    · have : isReady s.anc k o = false := by simpa using hr
      simp only [this, cond_false] at h
      exact ih (k + 1) s s' hl' h H

theorem cands_ok : ∀ (l : List Oper) (k : Nat) (anc : T (List Nat)) (j : Nat) (o : Oper), l[j]? = some o → isReady anc (k + j) o = true → (k + j, o) ∈ cands anc k l := by
  intro l
  induction l with
  | nil => intro k anc j o h; simp at h
  | cons x l ih =>
    intro k anc j o hj hr
    simp only [cands]
    cases j with
    | zero =>
      simp only [List.getElem?_cons_zero, Option.some.injEq] at hj
      subst hj
      simp only [Nat.add_zero] at hr ⊢
      simp [hr]
    | succ j =>
      have h1 := ih (k + 1) anc j o (by simpa using hj) (by rw [show k + 1 + j = k + (j + 1) from by omega]; exact hr)
      rw [show k + 1 + j = k + (j + 1) from by omega] at h1
      cases isReady anc k x
      · exact h1
      · exact List.mem_cons_of_mem _ h1
theorem cands_sound : ∀ (l : List Oper) (k : Nat) (anc : T (List Nat)) (j : Nat) (o : Oper), (j, o) ∈ cands anc k l → ∃ j', j = k + j' ∧ l[j']? = some o ∧ isReady anc j o = true := by
  intro l
  induction l with
  | nil => intro k anc j o h; simp [cands] at h
  | cons x l ih =>
    intro k anc j o h
    simp only [cands] at h
    cases hr : isReady anc k x with
    | true =>
      rw [hr] at h
      simp only [cond_true] at h
      rcases List.mem_cons.1 h with e | h
      · cases e
        exact ⟨0, rfl, rfl, hr⟩
      · obtain ⟨j', h1, h2, h3⟩ := ih (k + 1) anc j o h
        exact ⟨j' + 1, by omega, by simpa using h2, h3⟩
    | false =>
      rw [hr] at h
      simp only [cond_false] at h
      obtain ⟨j', h1, h2, h3⟩ := ih (k + 1) anc j o h
      exact ⟨j' + 1, by omega, by simpa using h2, h3⟩
end
end Go.Am
