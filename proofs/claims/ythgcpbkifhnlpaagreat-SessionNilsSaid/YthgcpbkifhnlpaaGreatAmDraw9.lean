/- An evaluator over abstract values, proved sound over the model's machine; no condition. Part: Draw9. -/
import Derived.Test.YthgcpbkifhnlpaaGreatAmDraw8
set_option linter.unusedSimpArgs false
set_option linter.unusedVariables false
set_option linter.unusedSectionVars false
set_option linter.deprecated false
namespace Go.Am
open Go.RowKit

section
variable {P : Program} {tab : Tab} (ok : TabOK P tab) {sub : FuncId → List AV → AH → R (List (AV × AH))} (hsub : SubOK P tab sub) (hext : ExtOK P tab)
variable {D : Nat → Prop} {E : Env} {K : Nat → Prop} {base : List Frame} {frC : Frame} {csC : List Frame} {w : World}
variable {ops : Array Oper} {fr0 : AFrame} {cs : List AFrame} {k : List AItem} {lo : Nat} {s : DS} {X : Nat → Prop} {tsR : T AV} {hR : AH} {j : Nat} {l : List Nat} {o : Oper} {v : AV}

/-- From here the machine comes to the next place in the midst. -/
def Comes1 (P : Program) (ops : Array Oper) (fr0 : AFrame) (cs : List AFrame) (k : List AItem) (base : List Frame) (s : DS) (X : Nat → Prop) (D : Nat → Prop) (E : Env) (K : Nat → Prop) (lo : Nat) (l : List Nat) (frC : Frame) (csC : List Frame) (w : World) : Prop :=
  ∃ tsR' hR' frC' csC' w' D' E', Steps P (lone frC csC w) (lone frC' csC' w') ∧ RInv ops fr0 cs k base s X D' E' K tsR' hR' l frC' csC' w' ∧ Agree D E E' ∧ (∀ i, D i → D' i) ∧ Kept K w w' ∧ (∀ i, D' i → D i ∨ lo ≤ i)

include ok in
theorem exec_pend (H : DInv tab ops fr0.nt fr0.tmps lo s X) (R : RInv ops fr0 cs k base s X D E K tsR hR (j :: l) frC csC w) (hm : fr0.mode = .run) (ho : ops[j]? = some o) (hC : (s.anc.get j).isSome) (hx : ¬ X j)
    (hready : ∀ p ∈ preOf o, X p) : Comes1 P ops fr0 cs k base s (fun i => X i ∨ i = j) D E K lo l frC csC w := by
  obtain ⟨o', tj, v, ho', hdst, hlook, hkind⟩ := H.pend j hC hx
  rw [ho] at ho'
  cases ho'
  have hl := look_real H R hlook hx hready
  obtain ⟨hops, hwant⟩ := looks_spec hl
  obtain ⟨htr1, htr0⟩ := tr_put H R hC ho hdst
  have hfin := finish_draw (fr0 := fr0) (tsR := tsR) (l := l) (k := k) ho v
  have hdomR := (R.rel.all E (Agree.refl _ _)).1.dom
  have wrap : ∀ (N : Nat → Prop) (hR2 : AH), GetsN P (lone frC csC w) D N E K { fr := { fr0 with tmps := drawPut fr0.nt tsR o v, todo := .inRegion ops l :: k }, cs, h := hR2 } base w →
      (∀ i ob, hR2.get i = some ob ↔ s.h.get i = some ob ∧ ∀ x ∈ s.allocs, x.2 = i → X x.1 ∨ x.1 = j) → hR2.next = s.h.next → (∀ i, N i → (j, i) ∈ s.allocs) →
      Comes1 P ops fr0 cs k base s (fun i => X i ∨ i = j) D E K lo l frC csC w := by
    intro N hR2 hg hchar hnx hN
    obtain ⟨frC', csC', w', E1, s1, s2, s3, s4⟩ := hg
    refine ⟨_, hR2, frC', csC', w', _, E1, s1, ⟨s2, hchar, hnx, htr1, htr0, ?_⟩, s3, fun i hi => .inl hi, s4, fun i hi => hi.elim .inl (fun h => .inr ((H.al _ (hN i h)).2.2))⟩
    rintro x hxm hnx' (hd | hn)
    · exact R.dp x hxm (fun h => hnx' (.inl h)) hd
    · have := H.alu x hxm _ (hN _ hn) rfl
      exact hnx' (.inr (by rw [this]))
  have hcharA : (∀ x ∈ s.allocs, x.1 ≠ j) → ∀ i ob, hR.get i = some ob ↔ s.h.get i = some ob ∧ ∀ x ∈ s.allocs, x.2 = i → X x.1 ∨ x.1 = j := by
    intro hno i ob
    rw [R.hr i ob]
    constructor
    · rintro ⟨h1, h2⟩
      exact ⟨h1, fun x hx e => .inl (h2 x hx e)⟩
    · rintro ⟨h1, h2⟩
      exact ⟨h1, fun x hx e => (h2 x hx e).resolve_right (hno x hx)⟩
  rcases hkind with ⟨hw, rfl, hno⟩ | ⟨hw, hk⟩
  · exact wrap _ hR (skip_step R.rel hm rfl ho (by rw [hwant]; exact hw) hfin) (hcharA hno) R.hn (fun _ h => h.elim)
  · have a := atOp R.rel hm rfl ho (by rw [hwant]; exact hw)
    rcases hk with ⟨⟨h1, hp, hn1⟩, hno⟩ | ⟨b, h1, ob, ⟨hb1, hb2⟩, hp, hn1, hob, hsb⟩ | ⟨⟨_, hno⟩, _, _, hr, hp, hrr⟩
    · refine wrap _ hR (frame_step ok R.rel a (h0 := { t := .e, next := 0 }) (h1 := h1) (h2 := hR) (by rw [pureOp_congr o hops]; exact hp) hfin ?_ ?_ ?_ (fun i o h => .inl (hdomR i o h)) (fun _ => False) ?_ (fun _ h => h.elim) (fun i hi => hi.elim (R.rel.dom i) False.elim)) (hcharA hno) R.hn (fun _ h => h.elim)
      · intro i o' h; cases h
      · intro i o' h; cases h
      · intro i o' h; exact .inr ⟨h, rfl⟩
      · intro h; simp only at h; omega
    · have hbn := (H.al _ hb1).1
      have hget : ∀ i, (hR.set b ob).get i = if i = b then some ob else hR.get i := fun i => AH.get_set _ _ _ _
      refine wrap (fun i => i = b) (hR.set b ob) (frame_step ok R.rel a (h0 := { t := .e, next := b }) (h1 := h1) (h2 := hR.set b ob) (by rw [pureOp_congr o hops]; exact hp) hfin ?_ ?_ ?_ ?_ (fun i => i = b) ?_ ?_ ?_) ?_ R.hn ?_
      · intro i o' h; cases h
      · intro i o' h; cases h
      · intro i o' h
        rw [hget] at h
        by_cases e : i = b
        · subst e
          rw [if_pos rfl] at h
          exact .inl (hob.trans h)
        · rw [if_neg e] at h
          exact .inr ⟨h, rfl⟩
      · intro i o' h
        rw [hget] at h
        simp only [AH.next_set]
        left
        by_cases e : i = b
        · rw [e, R.hn]; exact hbn
        · rw [if_neg e] at h
          exact hdomR i o' h
      · intro _; rfl
      · rintro i rfl
        exact ⟨rfl, R.dp _ hb1 hx⟩
      · rintro i (hi | rfl)
        · exact R.rel.dom i hi
        · simp only [AH.next_set]; rw [R.hn]; exact hbn
      · intro i ob'
        rw [hget]
        by_cases e : i = b
        · subst e
          rw [if_pos rfl, hsb]
          constructor
          · intro h
            refine ⟨h, fun x hx e => .inr ?_⟩
            rw [H.alu x hx _ hb1 e]
          · exact fun h => h.1
        · rw [if_neg e, R.hr i ob']
          constructor
          · rintro ⟨h1, h2⟩
            exact ⟨h1, fun x hx e => .inl (h2 x hx e)⟩
          · rintro ⟨h1, h2⟩
            refine ⟨h1, fun x hx e' => (h2 x hx e').resolve_right (fun ej => e ?_)⟩
            rw [← e', hb2 x hx ej]
      · rintro i rfl
        exact hb1
    · refine wrap _ hR (frame_step ok R.rel a (h0 := hr) (h1 := hr) (h2 := hR) (by rw [pureOp_congr o hops]; exact hp) hfin ?_ ?_ ?_ (fun i o h => .inl (hdomR i o h)) (fun _ => False) ?_ (fun _ h => h.elim) (fun i hi => hi.elim (R.rel.dom i) False.elim)) (hcharA hno) R.hn (fun _ h => h.elim)
      · intro i o' h
        obtain ⟨g1, g2, g3⟩ := hrr i o' h
        exact (R.hr i o').2 ⟨g2, fun x hx e => absurd e (g3 x hx)⟩
      · intro i o' h; exact (hrr i o' h).1
      · intro i o' h
        cases hg : hr.get i with
        | none => exact .inr ⟨h, rfl⟩
        | some ob' =>
          left
          have := (hrr i ob' hg).2.1
          rw [((R.hr i o').1 h).1] at this
          exact this.symm
      · intro h; omega
end
end Go.Am
