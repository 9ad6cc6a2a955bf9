/- An evaluator over abstract values, proved sound over the model's machine; no condition. Part: Draw8. -/
import Derived.Test.YthgcpbkifhnlpaaGreatAmDraw7
set_option linter.unusedSimpArgs false
set_option linter.unusedVariables false
set_option linter.unusedSectionVars false
set_option linter.deprecated false
namespace Go.Am
open Go.RowKit

/-- The machine in the midst of a region: X has come. -/
structure RInv (ops : Array Oper) (fr0 : AFrame) (cs : List AFrame) (k : List AItem) (base : List Frame) (s : DS) (X : Nat → Prop) (D : Nat → Prop) (E : Env) (K : Nat → Prop)
    (tsR : T AV) (hR : AH) (l : List Nat) (frC : Frame) (csC : List Frame) (w : World) : Prop where
  rel : Rel D E K { fr := { fr0 with tmps := tsR, todo := .inRegion ops l :: k }, cs, h := hR } base frC csC w
  hr : ∀ i ob, hR.get i = some ob ↔ s.h.get i = some ob ∧ ∀ x ∈ s.allocs, x.2 = i → X x.1
  hn : hR.next = s.h.next
  tr1 : ∀ j o t, X j → ops[j]? = some o → o.dst = some t → tsR.get t = s.ts.get t
  tr0 : ∀ t, (∀ j o, X j → ops[j]? = some o → o.dst ≠ some t) → tsR.get t = fr0.tmps.get t
  dp : ∀ x ∈ s.allocs, ¬ X x.1 → ¬ D x.2

section
variable {P : Program} {tab : Tab} (ok : TabOK P tab)
variable {D : Nat → Prop} {E : Env} {K : Nat → Prop} {base : List Frame} {frC : Frame} {csC : List Frame} {w : World}
variable {ops : Array Oper} {fr0 : AFrame} {cs : List AFrame} {k : List AItem} {lo : Nat} {s : DS} {X : Nat → Prop} {tsR : T AV} {hR : AH} {j : Nat} {l : List Nat} {o : Oper} {v : AV}

theorem skip_step {fr fr' : AFrame} {h : AH} {i : Nat} {rest : List Nat} {k : List AItem} (hR : Rel D E K { fr, cs, h } base frC csC w) (hm : fr.mode = .run) (ht : fr.todo = .inRegion ops (i :: rest) :: k) (ho : ops[i]? = some o) (hw : wanted ops o fr.tmps = .ok false)
    (hf : fr.finish (.tup []) = .ok fr') : GetsN P (lone frC csC w) D (fun _ => False) E K { fr := fr', cs, h } base w := by
  have hfc := finish_conc hf
  refine hR.oneN (m' := { fr := fr', cs, h }) _ _ (fun _ => (0, 0)) (fun _ h => h.elim) (fun i hi => hi.elim (hR.dom i) False.elim) ⟨(hfc E).2.1 hR.wf.1, hR.wf.2⟩ ?_
  intro E' he H e1 e2 _
  refine ⟨w, step_lone_go ?_, H, Kept.refl K w⟩
  have hw' := wanted_conc hR.wf.1 hw E'
  rw [← (hfc E').1, ← e1, ← e2]
  have h1 : (concF E' fr).todo = .inRegion ops (i :: rest) :: k.map (concI E') := by simp [concF, ht, concI]
  have h2 : (concF E' fr).mode = .run := by simp [concF, hm, concM]
  have h3 : Region.wanted o (yielded ops (concF E' fr).tmps) = false := hw'
  simp only
  generalize concF E' fr = g at *
  unfold stepG stepG.exec
  simp [h1, h2, ho, h3]
  rfl

/-- What an operation looks at is as it was. -/
theorem look_real (H : DInv tab ops fr0.nt fr0.tmps lo s X) (R : RInv ops fr0 cs k base s X D E K tsR hR l frC csC w) {tj : T AV} (hl : Look ops fr0.tmps s j o tj) (hx : ¬ X j) (hready : ∀ p ∈ preOf o, X p) :
    ∀ t ∈ looks ops o, tsR.get t = tj.get t := by
  intro t ht
  rcases hl t ht with ⟨i, oi, h1, h2, h3, _, h5⟩ | ⟨h1, h2⟩
  · rw [h5, R.tr1 i oi t (hready i h3) h1 h2]
  · rw [h1]
    refine R.tr0 t (fun i oi hi hoi hd => ?_)
    have hc := H.cx i hi
    cases ha : s.anc.get i with
    | none => rw [ha] at hc; cases hc
    | some a =>
      rcases h2 i oi a hoi hd ha with e | hm
      · exact hx (e ▸ hi)
      · exact hx (H.xdn i a hi ha j hm)

theorem DInv.come (H : DInv tab ops fr0.nt fr0.tmps lo s X) (hC : (s.anc.get j).isSome) (ho : ops[j]? = some o) (hready : ∀ p ∈ preOf o, X p) : DInv tab ops fr0.nt fr0.tmps lo s (fun i => X i ∨ i = j) := by
  refine ⟨?_, ?_, H.op, H.shape, H.uniq, H.tsC, fun i hi hx => H.pend i hi (fun h => hx (.inl h)), H.al, H.nx, H.tsw, H.alu, H.hd⟩
  · rintro i (hi | rfl)
    · exact H.cx i hi
    · exact hC
  · rintro i a (hi | rfl) ha x hx
    · exact .inl (H.xdn i a hi ha x hx)
    · obtain ⟨g1, g2⟩ := H.shape i a o ha ho
      rcases g2 x hx with hp | ⟨p, hp, ap, h1, h2⟩
      · exact .inl (hready x hp)
      · exact .inl (H.xdn p ap (hready p hp) h1 x h2)

/-- The temporaries behind an operation. -/
theorem tr_put (H : DInv tab ops fr0.nt fr0.tmps lo s X) (R : RInv ops fr0 cs k base s X D E K tsR hR l frC csC w) (hC : (s.anc.get j).isSome) (ho : ops[j]? = some o) (hdst : ∀ d, o.dst = some d → d < fr0.nt → s.ts.get d = some v) :
    (∀ i oi t, (X i ∨ i = j) → ops[i]? = some oi → oi.dst = some t → (drawPut fr0.nt tsR o v).get t = s.ts.get t) ∧
    (∀ t, (∀ i oi, (X i ∨ i = j) → ops[i]? = some oi → oi.dst ≠ some t) → (drawPut fr0.nt tsR o v).get t = fr0.tmps.get t) := by
  constructor
  · intro i oi t hi hoi hd
    rw [drawPut_get]
    by_cases h1 : o.dst = some t ∧ t < fr0.nt
    · rw [if_pos h1, hdst t h1.1 h1.2]
    · rw [if_neg h1]
      rcases hi with hi | rfl
      · exact R.tr1 i oi t hi hoi hd
      · rw [ho] at hoi
        cases hoi
        have hge : fr0.nt ≤ t := Nat.le_of_not_lt (fun hlt => h1 ⟨hd, hlt⟩)
        rw [H.tsw t hge]
        exact R.rel.wf.1 t hge
  · intro t ht
    rw [drawPut_get, if_neg (fun h => ht j o (.inr rfl) ho h.1)]
    exact R.tr0 t (fun i oi hi hoi => ht i oi (.inl hi) hoi)

theorem finish_draw (ho : ops[j]? = some o) (v : AV) : AFrame.finish { fr0 with tmps := tsR, todo := .inRegion ops (j :: l) :: k } v = .ok { fr0 with tmps := drawPut fr0.nt tsR o v, todo := .inRegion ops l :: k } := by
  unfold AFrame.finish
  simp only [ho, Option.bind_some]
  congr 1
end
end Go.Am
