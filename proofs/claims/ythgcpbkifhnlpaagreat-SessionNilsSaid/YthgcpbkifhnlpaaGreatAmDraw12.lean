/- An evaluator over abstract values, proved sound over the model's machine; no condition. Part: Draw12. -/
import Derived.Test.YthgcpbkifhnlpaaGreatAmDraw11
set_option linter.unusedSimpArgs false
set_option linter.unusedVariables false
set_option linter.unusedSectionVars false
set_option linter.deprecated false
namespace Go.Am
open Go.RowKit

theorem HOK.same {E : Env} {h h' : AH} {K : Nat → Prop} {w : World} (H : HOK E h K w) (hg : ∀ i ob, h'.get i = some ob → h.get i = some ob) (hn : h.next ≤ h'.next) : HOK E h' K w :=
  ⟨fun i o hi => H.obj i o (hg i o hi), fun i o hi => H.nk i o (hg i o hi), fun i j oi oj hi hj => H.inj i j oi oj (hg i oi hi) (hg j oj hj), fun i o hi => Nat.lt_of_lt_of_le (H.dom i o (hg i o hi)) hn, H.kb⟩

section
variable {tab : Tab} {D : Nat → Prop} {E : Env} {K : Nat → Prop} {base : List Frame} {frC : Frame} {csC : List Frame} {w : World}
variable {ops : Array Oper} {fr0 : AFrame} {cs : List AFrame} {k : List AItem} {lo : Nat} {s s' : DS} {X : Nat → Prop} {tsR : T AV} {hR : AH} {j : Nat} {l : List Nat} {o : Oper}

/-- What has only been looked at is not there yet. -/
theorem RInv.look (H : DInv tab ops fr0.nt fr0.tmps lo s X) (Q : RInv ops fr0 cs k base s X D E K tsR hR l frC csC w)
    (ht : ∀ j o t, X j → ops[j]? = some o → o.dst = some t → s'.ts.get t = s.ts.get t) (hn : s.h.next ≤ s'.h.next)
    (hg : ∀ i ob, (s'.h.get i = some ob ∧ ∀ x ∈ s'.allocs, x.2 = i → X x.1) ↔ (s.h.get i = some ob ∧ ∀ x ∈ s.allocs, x.2 = i → X x.1))
    (ha : ∀ x ∈ s'.allocs, x ∈ s.allocs ∨ s.h.next ≤ x.2) : RInv ops fr0 cs k base s' X D E K tsR { hR with next := s'.h.next } l frC csC w := by
  have hget : ∀ i, ({ hR with next := s'.h.next } : AH).get i = hR.get i := fun _ => rfl
  refine ⟨⟨fun E' he => ?_, fun i hi => ?_, Q.rel.wf⟩, ?_, rfl, ?_, Q.tr0, ?_⟩
  · obtain ⟨g1, g2, g3⟩ := Q.rel.all E' he
    exact ⟨g1.same (fun i ob h => h) (by simp only; rw [Q.hn]; exact hn), g2, g3⟩
  · have := Q.rel.dom i hi
    simp only at this ⊢
    rw [Q.hn] at this
    omega
  · intro i ob
    rw [hget, Q.hr i ob, hg i ob]
  · intro j o t hx ho hd
    rw [Q.tr1 j o t hx ho hd, ht j o t hx ho hd]
  · intro x hx hnx hd
    rcases ha x hx with h | h
    · exact Q.dp x h hnx hd
    · have := Q.rel.dom _ hd
      simp only at this
      rw [Q.hn] at this
      omega

theorem preLt_ok : ∀ (l : List Oper) (k : Nat), preLt k l = true → ∀ j o, l[j]? = some o → ∀ p ∈ preOf o, p < k + j := by
  intro l
  induction l with
  | nil => intro k _ j o h; simp at h
  | cons x l ih =>
    intro k h j o hj p hp
    simp only [preLt, Bool.and_eq_true, List.all_eq_true] at h
    cases j with
    | zero =>
      simp only [List.getElem?_cons_zero, Option.some.injEq] at hj
      subst hj
      have := h.1 p hp
      simpa using this
    | succ j =>
      have := ih (k + 1) h.2 j o (by simpa using hj) p hp
      omega
end

section
variable {tab : Tab} {D : Nat → Prop} {E : Env} {K : Nat → Prop} {base : List Frame} {frC : Frame} {csC : List Frame} {w : World}
variable {ops : Array Oper} {fr0 : AFrame} {cs : List AFrame} {k : List AItem} {lo : Nat} {X : Nat → Prop} {tsR : T AV} {l : List Nat}

theorem float_look {s s' : DS} {i : Nat} {o : Oper} {hR : AH} (hf : drawFloat tab ops fr0.nt i o s = .ok (some s')) (hi : ops[i]? = some o) (hr : isReady s.anc i o = true) (H : DInv tab ops fr0.nt fr0.tmps lo s X)
    (Q : RInv ops fr0 cs k base s X D E K tsR hR l frC csC w) : ∃ hR', RInv ops fr0 cs k base s' X D E K tsR hR' l frC csC w := by
  obtain ⟨hnone, _⟩ := isReady_ok hr
  have hxi : ¬ X i := fun h => by have := H.cx i h; rw [hnone] at this; cases this
  have hput : ∀ (v : AV) j oj t, X j → ops[j]? = some oj → oj.dst = some t → (drawPut fr0.nt s.ts o v).get t = s.ts.get t := by
    intro v j oj t hx ho hd
    rw [drawPut_get, if_neg]
    rintro ⟨h, _⟩
    have := H.uniq j i oj o t (H.cx j hx) ho hi hd h
    exact hxi (this ▸ hx)
  have hsame : ∀ (v : AV) (s2 : DS), s2.ts = drawPut fr0.nt s.ts o v → s2.h = s.h → s2.allocs = s.allocs → ∃ hR', RInv ops fr0 cs k base s2 X D E K tsR hR' l frC csC w := by
    intro v s2 e1 e2 e3
    refine ⟨_, Q.look H (s' := s2) ?_ (by rw [e2]; exact Nat.le_refl _) (fun i ob => by rw [e2, e3]) (fun x hx => .inl (by rw [← e3]; exact hx))⟩
    intro j oj t hx ho hd
    rw [e1]; exact hput v j oj t hx ho hd
  unfold drawFloat at hf
  obtain ⟨_, hck, hf1⟩ := R.bind_ok.1 hf
  obtain ⟨b, hb, hf2⟩ := R.bind_ok.1 hf1
  clear hf hf1
  cases b with
  | false =>
    simp only [Bool.not_false, if_true] at hf2
    cases hf2
    exact hsame _ _ rfl rfl rfl
  | true =>
    simp only [Bool.not_true, Bool.false_eq_true, if_false] at hf2
    split at hf2
    · cases hf2
    · obtain ⟨⟨u, h1⟩, hp, hf3⟩ := R.bind_ok.1 hf2
      obtain ⟨_, hn, hf4⟩ := R.bind_ok.1 hf3
      obtain ⟨ob, hob, hf5⟩ := R.bind_ok.1 hf4
      cases hf5
      refine ⟨_, Q.look H (hput u) (by simp) ?_ ?_⟩
      · intro i' ob'
        simp only
        rw [AH.get_new]
        by_cases e : i' = s.h.next
        · subst e
          rw [if_pos rfl]
          constructor
          · rintro ⟨_, h2⟩
            exact absurd (h2 _ List.mem_cons_self rfl) hxi
          · rintro ⟨h1, _⟩
            have := H.hd _ _ h1
            omega
        · rw [if_neg e]
          constructor
          · rintro ⟨h1, h2⟩
            exact ⟨h1, fun x hx e' => h2 x (List.mem_cons_of_mem _ hx) e'⟩
          · rintro ⟨h1, h2⟩
            refine ⟨h1, fun x hx e' => ?_⟩
            rcases List.mem_cons.1 hx with rfl | hx
            · exact absurd e'.symm e
            · exact h2 x hx e'
      · intro x hx
        rcases List.mem_cons.1 hx with rfl | hx
        · exact .inr (Nat.le_refl _)
        · exact .inl hx
    · split at hf2
      · rename_i u h1 hm'
        obtain ⟨_, hn, hf3⟩ := R.bind_ok.1 hf2
        cases hf3
        exact hsame _ _ rfl rfl rfl
      · split at hf2
        · rename_i u h1 hp
          cases hf2
          exact hsame _ _ rfl rfl rfl
        · cases hf2

theorem pass_look : ∀ (l' : List Oper) (n : Nat) (s s' : DS) (hR : AH), (∀ j o, l'[j]? = some o → ops[n + j]? = some o) → drawPass tab ops fr0.nt n l' s = .ok s' → DInv tab ops fr0.nt fr0.tmps lo s X →
    RInv ops fr0 cs k base s X D E K tsR hR l frC csC w → ∃ hR', RInv ops fr0 cs k base s' X D E K tsR hR' l frC csC w := by
  intro l'
  induction l' with
  | nil => intro n s s' hR _ h H Q; simp only [drawPass] at h; cases h; exact ⟨hR, Q⟩
  | cons o l' ih =>
    intro n s s' hR hl h H Q
    have hl' : ∀ j o', l'[j]? = some o' → ops[n + 1 + j]? = some o' := by
      intro j o' hj
      have := hl (j + 1) o' (by simpa using hj)
      rw [show n + 1 + j = n + (j + 1) from by omega]; exact this
    simp only [drawPass] at h
    by_cases hr : isReady s.anc n o = true
    · simp only [hr, cond_true] at h
      obtain ⟨x, hx, h1⟩ := R.bind_ok.1 h
      cases x with
      | none => exact ih (n + 1) s s' hR hl' h1 H Q
      | some s1 =>
        have hin : ops[n]? = some o := by simpa using hl 0 o rfl
        obtain ⟨hR1, Q1⟩ := float_look hx hin hr H Q
        exact ih (n + 1) s1 s' hR1 hl' h1 (drawFloat_ok hx hin hr H) Q1
    · have : isReady s.anc n o = false := by simpa using hr
      simp only [this, cond_false] at h
      exact ih (n + 1) s s' hR hl' h H Q
end
end Go.Am
