/- An evaluator over abstract values, proved sound over the model's machine; no condition. Part: Draw6. -/
import Derived.Test.YthgcpbkifhnlpaaGreatAmDraw5
set_option linter.unusedSimpArgs false
set_option linter.unusedVariables false
set_option linter.unusedSectionVars false
set_option linter.deprecated false
namespace Go.Am
open Go.RowKit

theorem drawPut_get (nt : Nat) (ts : T AV) (o : Oper) (v : AV) (t : Nat) : (drawPut nt ts o v).get t = if o.dst = some t ∧ t < nt then some v else ts.get t := by
  unfold drawPut
  cases hd : o.dst with
  | none => simp
  | some d =>
    have := putT_get ts nt d v t
    unfold putT at this
    simp only [this, Option.some.injEq]
    by_cases h1 : t = d
    · subst h1; simp
    · have h2 : ¬ d = t := fun e => h1 e.symm
      simp [h1, h2]
theorem mem_ancOf {anc : T (List Nat)} {o : Oper} {i : Nat} : i ∈ ancOf anc o ↔ i ∈ preOf o ∨ ∃ p ∈ preOf o, ∃ ap, anc.get p = some ap ∧ i ∈ ap := by
  unfold ancOf
  rw [List.mem_flatMap]
  constructor
  · rintro ⟨p, hp, hi⟩
    rcases List.mem_cons.1 hi with rfl | hi
    · exact .inl hp
    · cases ha : anc.get p with
      | none => rw [ha] at hi; cases hi
      | some ap => rw [ha] at hi; exact .inr ⟨p, hp, ap, ha, hi⟩
  · rintro (hp | ⟨p, hp, ap, ha, hi⟩)
    · exact ⟨i, hp, List.mem_cons_self⟩
    · exact ⟨p, hp, List.mem_cons_of_mem _ (by rw [ha]; exact hi)⟩

section
variable {tab : Tab} {ops : Array Oper} {nt lo : Nat} {ts0 : T AV} {s s' : DS} {X : Nat → Prop} {i : Nat} {o : Oper} {v : AV}

theorem DInv.float (H : DInv tab ops nt ts0 lo s X) (hi : ops[i]? = some o) (hr : isReady s.anc i o = true) (hok : opOk s.anc ops i o = true)
    (e1 : s'.ts = drawPut nt s.ts o v) (e2 : s'.anc = s.anc.set i (some (ancOf s.anc o))) (eh : ∀ b ob, s.h.get b = some ob → s'.h.get b = some ob) (en : s.h.next ≤ s'.h.next)
    (ea : s'.allocs = s.allocs ∨ (s'.allocs = (i, s.h.next) :: s.allocs ∧ s'.h.next = s.h.next + 1)) (er : ∀ x ∈ s.reads, x ∈ s'.reads) (hd' : ∀ b ob, s'.h.get b = some ob → b < s'.h.next)
    (hk : Kind tab ops s' i o s.ts v) : DInv tab ops nt ts0 lo s' X := by
  obtain ⟨hnone, hpre⟩ := isReady_ok hr
  obtain ⟨hok1, hok2⟩ := opOk_ok hok
  have hanc : ∀ j, s'.anc.get j = if j = i then some (ancOf s.anc o) else s.anc.get j := by
    intro j; rw [e2, T.get_set]
  have hold : ∀ j, (s.anc.get j).isSome → j ≠ i ∧ s'.anc.get j = s.anc.get j := by
    intro j hj
    have hne : j ≠ i := by intro e; subst e; rw [hnone] at hj; cases hj
    exact ⟨hne, by rw [hanc, if_neg hne]⟩
  have hnd : ∀ j oj d, (s.anc.get j).isSome → ops[j]? = some oj → oj.dst = some d → o.dst ≠ some d := by
    intro j oj d hj hoj hd hod
    have := H.uniq j i oj o d hj hoj hi hd hod
    exact (hold j hj).1 this
  have hts : ∀ t, o.dst ≠ some t → s'.ts.get t = s.ts.get t := by
    intro t ht
    rw [e1, drawPut_get, if_neg]
    rintro ⟨h, _⟩
    exact ht h
  refine ⟨?_, ?_, ?_, ?_, ?_, ?_, ?_, ?_, Nat.le_trans H.nx en, ?_, ?_, hd'⟩
  · intro j hj
    rw [(hold j (H.cx j hj)).2]; exact H.cx j hj
  · intro j a hj ha
    rw [(hold j (H.cx j hj)).2] at ha
    exact H.xdn j a hj ha
  · intro j hj
    rw [hanc] at hj
    by_cases h1 : j = i
    · subst h1; exact ⟨o, hi⟩
    · rw [if_neg h1] at hj; exact H.op j hj
  · intro j a oj ha hoj
    rw [hanc] at ha
    by_cases h1 : j = i
    · subst h1
      rw [if_pos rfl] at ha
      rw [hi] at hoj
      cases ha; cases hoj
      refine ⟨fun p hp => ⟨mem_ancOf.2 (.inl hp), ?_⟩, fun x hx => ?_⟩
      · rw [(hold p (hpre p hp)).2]; exact hpre p hp
      · rcases mem_ancOf.1 hx with h | ⟨p, hp, ap, h1, h2⟩
        · exact .inl h
        · exact .inr ⟨p, hp, ap, by rw [(hold p (by rw [h1]; rfl)).2]; exact h1, h2⟩
    · rw [if_neg h1] at ha
      obtain ⟨g1, g2⟩ := H.shape j a oj ha hoj
      refine ⟨fun p hp => ⟨(g1 p hp).1, ?_⟩, fun x hx => ?_⟩
      · rw [(hold p (g1 p hp).2).2]; exact (g1 p hp).2
      · rcases g2 x hx with h | ⟨p, hp, ap, h1, h2⟩
        · exact .inl h
        · exact .inr ⟨p, hp, ap, by rw [(hold p (by rw [h1]; rfl)).2]; exact h1, h2⟩
  · intro a b oa ob d ha hoa hob hda hdb
    rw [hanc] at ha
    by_cases h1 : a = i
    · subst h1
      rw [hi] at hoa; cases hoa
      exact (hok2 d hda b ob hob).1 hdb
    · rw [if_neg h1] at ha
      exact H.uniq a b oa ob d ha hoa hob hda hdb
  · intro t ht
    have h1 : o.dst ≠ some t := ht i o (by rw [hanc, if_pos rfl]; rfl) hi
    rw [hts t h1]
    exact H.tsC t (fun j oj hj hoj => ht j oj (by rw [(hold j hj).2]; exact hj) hoj)
  · intro j hj hx
    by_cases h1 : j = i
    · subst h1
      refine ⟨o, s.ts, v, hi, ?_, ?_, hk⟩
      · intro d hd hlt
        rw [e1, drawPut_get, if_pos ⟨hd, hlt⟩]
      · intro t ht
        by_cases hw : ∃ jj oj, ops[jj]? = some oj ∧ oj.dst = some t ∧ (s.anc.get jj).isSome
        · obtain ⟨jj, oj, g1, g2, g3⟩ := hw
          refine .inl ⟨jj, oj, g1, g2, hok1 t ht jj oj g1 g2 g3, by rw [(hold jj g3).2]; exact g3, ?_⟩
          exact (hts t (hnd jj oj t g3 g1 g2)).symm
        · refine .inr ⟨H.tsC t (fun jj oj g3 g1 g2 => hw ⟨jj, oj, g1, g2, g3⟩), ?_⟩
          intro i' oi a g1 g2 g3
          by_cases h2 : i' = j
          · exact .inl h2
          · rw [hanc, if_neg h2] at g3
            exact absurd ⟨i', oi, g1, g2, by rw [g3]; rfl⟩ hw
    · have hj' : (s.anc.get j).isSome := by rw [hanc, if_neg h1] at hj; exact hj
      obtain ⟨oj, tj, vj, g1, g2, g3, g4⟩ := H.pend j hj' hx
      refine ⟨oj, tj, vj, g1, ?_, ?_, ?_⟩
      · intro d hd hlt
        rw [hts d (hnd j oj d hj' g1 hd)]
        exact g2 d hd hlt
      · intro t ht
        rcases g3 t ht with ⟨i1, oi1, k1, k2, k3, k4, k5⟩ | ⟨k1, k2⟩
        · refine .inl ⟨i1, oi1, k1, k2, k3, by rw [(hold i1 k4).2]; exact k4, ?_⟩
          rw [k5, hts t (hnd i1 oi1 t k4 k1 k2)]
        · refine .inr ⟨k1, ?_⟩
          intro i' oi a q1 q2 q3
          rw [hanc] at q3
          by_cases h2 : i' = i
          · subst h2
            rw [if_pos rfl] at q3
            rw [hi] at q1
            cases q1; cases q3
            exact .inr ((hok2 t q2 j oj g1).2 hj' ht)
          · rw [if_neg h2] at q3
            exact k2 i' oi a q1 q2 q3
      · have hnoA : (∀ x ∈ s.allocs, x.1 ≠ j) → ∀ x ∈ s'.allocs, x.1 ≠ j := by
          intro hx x hm
          rcases ea with ea | ⟨ea, _⟩ <;> rw [ea] at hm
          · exact hx x hm
          · rcases List.mem_cons.1 hm with rfl | hm
            · exact fun e => h1 e.symm
            · exact hx x hm
        rcases g4 with ⟨k1, k2, k3⟩ | ⟨k1, k2⟩
        · exact .inl ⟨k1, k2, hnoA k3⟩
        · refine .inr ⟨k1, ?_⟩
          rcases k2 with k2 | ⟨b, h1', ob, m1, m2, m3, m4, m5⟩ | ⟨m1, m2, m3, hr', m4, m5⟩
          · exact .inl ⟨k2.1, hnoA k2.2⟩
          · refine .inr (.inl ⟨b, h1', ob, ?_, m2, m3, m4, eh _ _ m5⟩)
            rcases ea with ea | ⟨ea, _⟩ <;> rw [ea]
            · exact m1
            · refine ⟨List.mem_cons_of_mem _ m1.1, fun x hm e => ?_⟩
              rcases List.mem_cons.1 hm with rfl | hm
              · exact absurd e.symm h1
              · exact m1.2 x hm e
          · refine .inr (.inr ⟨⟨er _ m1.1, hnoA m1.2⟩, m2, m3, hr', m4, ?_⟩)
            intro b ob hb
            obtain ⟨n1, n2, n3⟩ := m5 b ob hb
            refine ⟨n1, eh _ _ n2, ?_⟩
            intro x hx'
            rcases ea with ea | ⟨ea, _⟩ <;> rw [ea] at hx'
            · exact n3 x hx'
            · rcases List.mem_cons.1 hx' with rfl | hx'
              · have := H.hd b ob n2
                simp only; omega
              · exact n3 x hx'
  · intro x hx
    rcases ea with ea | ⟨ea, hnx⟩ <;> rw [ea] at hx
    · have := H.al x hx
      exact ⟨by omega, by rw [(hold _ this.2.1).2]; exact this.2.1, this.2.2⟩
    · rcases List.mem_cons.1 hx with rfl | hx
      · exact ⟨by simp only; omega, by rw [hanc, if_pos rfl]; rfl, H.nx⟩
      · have := H.al x hx
        exact ⟨by omega, by rw [(hold _ this.2.1).2]; exact this.2.1, this.2.2⟩
  · intro t ht
    rw [e1, drawPut_get, if_neg (fun h => absurd h.2 (Nat.not_lt.2 ht))]
    exact H.tsw t ht
  · intro x hx y hy e
    rcases ea with ea | ⟨ea, hnx⟩ <;> rw [ea] at hx hy
    · exact H.alu x hx y hy e
    · rcases List.mem_cons.1 hx with rfl | hx <;> rcases List.mem_cons.1 hy with rfl | hy
      · rfl
      · have := (H.al y hy).1; simp only at e; omega
      · have := (H.al x hx).1; simp only at e; omega
      · exact H.alu x hx y hy e
end
end Go.Am
