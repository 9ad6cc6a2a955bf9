/- An evaluator over abstract values, proved sound over the model's machine; no condition. Part: Draw10. -/
import Derived.Test.YthgcpbkifhnlpaaGreatAmDraw9
set_option linter.unusedSimpArgs false
set_option linter.unusedVariables false
set_option linter.unusedSectionVars false
set_option linter.deprecated false
namespace Go.Am
open Go.RowKit

section
variable {tab : Tab} {ops : Array Oper} {nt lo : Nat} {ts0 : T AV} {s s' : DS} {X : Nat → Prop} {i : Nat} {o : Oper} {v : AV}

theorem DInv.eff (H : DInv tab ops nt ts0 lo s X) (hi : ops[i]? = some o) (hr : isReady s.anc i o = true) (hok : opOk s.anc ops i o = true) (hanX : ∀ p ∈ ancOf s.anc o, X p)
    (e1 : s'.ts = drawPut nt s.ts o v) (e2 : s'.anc = s.anc.set i (some (ancOf s.anc o))) (en : s.h.next ≤ s'.h.next)
    (ea : ∀ x ∈ s'.allocs, x ∈ s.allocs) (ea' : ∀ x ∈ s.allocs, x.1 ∉ ancOf s.anc o → x ∈ s'.allocs) (eh : ∀ x ∈ s'.allocs, s'.h.get x.2 = s.h.get x.2) (hd' : ∀ b ob, s'.h.get b = some ob → b < s'.h.next)
    (er : ∀ j oj tj vj, (j, tj, vj) ∈ s.reads → j ∉ ancOf s.anc o → ops[j]? = some oj → cls oj ≠ .eff → cls oj ≠ .alloc → (j, tj, vj) ∈ s'.reads ∧ ∃ hr, pureOp tab tj hr oj = .ok (vj, hr) ∧ ∀ b ob, hr.get b = some ob → b < hr.next ∧ s'.h.get b = some ob ∧ ∀ x ∈ s'.allocs, x.2 ≠ b) :
    DInv tab ops nt ts0 lo s' (fun j => X j ∨ j = i) := by
  obtain ⟨hnone, hpre⟩ := isReady_ok hr
  obtain ⟨hok1, hok2⟩ := opOk_ok hok
  have hanc : ∀ j, s'.anc.get j = if j = i then some (ancOf s.anc o) else s.anc.get j := by
    intro j; rw [e2, T.get_set]
  have hold : ∀ j, (s.anc.get j).isSome → j ≠ i ∧ s'.anc.get j = s.anc.get j := by
    intro j hj
    have hne : j ≠ i := by intro e; subst e; rw [hnone] at hj; cases hj
    exact ⟨hne, by rw [hanc, if_neg hne]⟩
  have hnd : ∀ j oj d, (s.anc.get j).isSome → ops[j]? = some oj → oj.dst = some d → o.dst ≠ some d := by
    intro j oj d hj hoj hd hod
    have := H.uniq j i oj o d hj hoj hi hd hod
    exact (hold j hj).1 this
  have hts : ∀ t, o.dst ≠ some t → s'.ts.get t = s.ts.get t := by
    intro t ht
    rw [e1, drawPut_get, if_neg]
    rintro ⟨h, _⟩
    exact ht h
  refine ⟨?_, ?_, ?_, ?_, ?_, ?_, ?_, ?_, Nat.le_trans H.nx en, ?_, ?_, hd'⟩
  · rintro j (hj | rfl)
    · rw [(hold j (H.cx j hj)).2]; exact H.cx j hj
    · rw [hanc, if_pos rfl]; rfl
  · rintro j a (hj | rfl) ha p hp
    · rw [(hold j (H.cx j hj)).2] at ha
      exact .inl (H.xdn j a hj ha p hp)
    · rw [hanc, if_pos rfl] at ha
      cases ha
      exact .inl (hanX p hp)
  · intro j hj
    rw [hanc] at hj
    by_cases h1 : j = i
    · subst h1; exact ⟨o, hi⟩
    · rw [if_neg h1] at hj; exact H.op j hj
  · intro j a oj ha hoj
    rw [hanc] at ha
    by_cases h1 : j = i
    · subst h1
      rw [if_pos rfl] at ha
      rw [hi] at hoj
      cases ha; cases hoj
      refine ⟨fun p hp => ⟨mem_ancOf.2 (.inl hp), ?_⟩, fun x hx => ?_⟩
      · rw [(hold p (hpre p hp)).2]; exact hpre p hp
      · rcases mem_ancOf.1 hx with h | ⟨p, hp, ap, h1, h2⟩
        · exact .inl h
        · exact .inr ⟨p, hp, ap, by rw [(hold p (by rw [h1]; rfl)).2]; exact h1, h2⟩
    · rw [if_neg h1] at ha
      obtain ⟨g1, g2⟩ := H.shape j a oj ha hoj
      refine ⟨fun p hp => ⟨(g1 p hp).1, ?_⟩, fun x hx => ?_⟩
      · rw [(hold p (g1 p hp).2).2]; exact (g1 p hp).2
      · rcases g2 x hx with h | ⟨p, hp, ap, h1, h2⟩
        · exact .inl h
        · exact .inr ⟨p, hp, ap, by rw [(hold p (by rw [h1]; rfl)).2]; exact h1, h2⟩
  · intro a b oa ob d ha hoa hob hda hdb
    rw [hanc] at ha
    by_cases h1 : a = i
    · subst h1
      rw [hi] at hoa; cases hoa
      exact (hok2 d hda b ob hob).1 hdb
    · rw [if_neg h1] at ha
      exact H.uniq a b oa ob d ha hoa hob hda hdb
  · intro t ht
    have h1 : o.dst ≠ some t := ht i o (by rw [hanc, if_pos rfl]; rfl) hi
    rw [hts t h1]
    exact H.tsC t (fun j oj hj hoj => ht j oj (by rw [(hold j hj).2]; exact hj) hoj)
  · intro j hj hx
    have h1 : j ≠ i := fun e => hx (.inr e)
    have hxj : ¬ X j := fun h => hx (.inl h)
    have hjan : j ∉ ancOf s.anc o := fun h => hxj (hanX j h)
    have hj' : (s.anc.get j).isSome := by rw [hanc, if_neg h1] at hj; exact hj
    obtain ⟨oj, tj, vj, g1, g2, g3, g4⟩ := H.pend j hj' hxj
    refine ⟨oj, tj, vj, g1, ?_, ?_, ?_⟩
    · intro d hd hlt
      rw [hts d (hnd j oj d hj' g1 hd)]
      exact g2 d hd hlt
    · intro t ht
      rcases g3 t ht with ⟨i1, oi1, k1, k2, k3, k4, k5⟩ | ⟨k1, k2⟩
      · refine .inl ⟨i1, oi1, k1, k2, k3, by rw [(hold i1 k4).2]; exact k4, ?_⟩
        rw [k5, hts t (hnd i1 oi1 t k4 k1 k2)]
      · refine .inr ⟨k1, ?_⟩
        intro i' oi a q1 q2 q3
        rw [hanc] at q3
        by_cases h2 : i' = i
        · subst h2
          rw [if_pos rfl] at q3
          rw [hi] at q1
          cases q1; cases q3
          exact .inr ((hok2 t q2 j oj g1).2 hj' ht)
        · rw [if_neg h2] at q3
          exact k2 i' oi a q1 q2 q3
    · rcases g4 with ⟨k1, k2, k3⟩ | ⟨k1, k2⟩
      · exact .inl ⟨k1, k2, fun x hx => k3 x (ea x hx)⟩
      · refine .inr ⟨k1, ?_⟩
        rcases k2 with k2 | ⟨b, h1', ob, m1, m2, m3, m4, m5⟩ | ⟨m1, m2, m3, _⟩
        · exact .inl ⟨k2.1, fun x hx => k2.2 x (ea x hx)⟩
        · have hm := ea' _ m1.1 hjan
          exact .inr (.inl ⟨b, h1', ob, ⟨hm, fun x hx => m1.2 x (ea x hx)⟩, m2, m3, m4, (eh _ hm).trans m5⟩)
        · obtain ⟨q1, q2⟩ := er j oj tj vj m1.1 hjan g1 m2 m3
          exact .inr (.inr ⟨⟨q1, fun x hx => m1.2 x (ea x hx)⟩, m2, m3, q2⟩)
  · intro x hx
    have := H.al x (ea x hx)
    exact ⟨by omega, by rw [(hold _ this.2.1).2]; exact this.2.1, this.2.2⟩
  · intro t ht
    rw [e1, drawPut_get, if_neg (fun h => absurd h.2 (Nat.not_lt.2 ht))]
    exact H.tsw t ht
  · intro x hx y hy e
    exact H.alu x (ea x hx) y (ea y hy) e

theorem reread_ok {h : AH} : ∀ (l : List (Nat × T AV × AV)), reread tab ops h l = .ok () → ∀ j tj vj, (j, tj, vj) ∈ l → ∃ oj h', ops[j]? = some oj ∧ pureOp tab tj h oj = .ok (vj, h') := by
  intro l
  induction l with
  | nil => intro _ j tj vj hm; cases hm
  | cons x l ih =>
    intro h j tj vj hm
    obtain ⟨i, ts, v⟩ := x
    simp only [reread] at h
    obtain ⟨o, ho, h1⟩ := R.bind_ok.1 h
    obtain ⟨⟨u, h'⟩, hp, h2⟩ := R.bind_ok.1 h1
    obtain ⟨_, hb, h3⟩ := R.bind_ok.1 h2
    have hb := AV.beq_eq _ _ (R.check_ok.1 hb)
    rcases List.mem_cons.1 hm with e | hm
    · cases e
      exact ⟨o, h', R.of_ok.1 ho, by rw [← hb]; exact hp⟩
    · exact ih h3 j tj vj hm
end
end Go.Am
