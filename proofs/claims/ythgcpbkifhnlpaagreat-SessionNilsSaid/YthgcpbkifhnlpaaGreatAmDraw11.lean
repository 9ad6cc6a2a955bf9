/- An evaluator over abstract values, proved sound over the model's machine; no condition. Part: Draw11. -/
import Derived.Test.YthgcpbkifhnlpaaGreatAmDraw10
set_option linter.unusedSimpArgs false
set_option linter.unusedVariables false
set_option linter.unusedSectionVars false
set_option linter.deprecated false
namespace Go.Am
open Go.RowKit

section
variable {P : Program} {tab : Tab} (ok : TabOK P tab) {sub : FuncId → List AV → AH → R (List (AV × AH))} (hsub : SubOK P tab sub) (hext : ExtOK P tab)
variable {D : Nat → Prop} {E : Env} {K : Nat → Prop} {base : List Frame} {frC : Frame} {csC : List Frame} {w : World}
variable {ops : Array Oper} {fr0 : AFrame} {cs : List AFrame} {k : List AItem} {lo : Nat} {s s2 : DS} {X : Nat → Prop} {tsR : T AV} {hR : AH} {j : Nat} {l : List Nat} {o : Oper}

open Classical in
include ok hsub hext in
theorem exec_eff (H : DInv tab ops fr0.nt fr0.tmps lo s X) (Q : RInv ops fr0 cs k base s X D E K tsR hR (j :: l) frC csC w) (hm : fr0.mode = .run) (ho : ops[j]? = some o) (hr : isReady s.anc j o = true)
    (hd : drawEff tab sub ops fr0.nt j o s = .ok s2) (hready : ∀ p ∈ preOf o, X p) : DInv tab ops fr0.nt fr0.tmps lo s2 (fun i => X i ∨ i = j) ∧ Comes1 P ops fr0 cs k base s2 (fun i => X i ∨ i = j) D E K lo l frC csC w := by
  unfold drawEff at hd
  obtain ⟨_, hck, hd1⟩ := R.bind_ok.1 hd
  obtain ⟨b, hb, hd2⟩ := R.bind_ok.1 hd1
  obtain ⟨_, hbt, hd3⟩ := R.bind_ok.1 hd2
  obtain ⟨⟨v, h1⟩, hp, hd4⟩ := R.bind_ok.1 hd3
  obtain ⟨_, hle, hd5⟩ := R.bind_ok.1 hd4
  obtain ⟨_, hrr, hd6⟩ := R.bind_ok.1 hd5
  clear hd hd1 hd2 hd3 hd4 hd5
  cases hd6
  have hok := R.check_ok.1 hck
  have hbt : b = true := R.check_ok.1 hbt
  subst hbt
  have hle := Nat.le_of_ble_eq_true (R.check_ok.1 hle)
  obtain ⟨hnone, hpre⟩ := isReady_ok hr
  obtain ⟨hok1, hok2⟩ := opOk_ok hok
  have hxj : ¬ X j := fun h => by have := H.cx j h; rw [hnone] at this; cases this
  have hanX : ∀ p ∈ ancOf s.anc o, X p := by
    intro p hp
    rcases mem_ancOf.1 hp with h | ⟨q, hq, ap, h1, h2⟩
    · exact hready p h
    · exact H.xdn q ap (hready q hq) h1 p h2
  generalize hhid : (s.allocs.filter fun x => !(memN x.1 (ancOf s.anc o))) = hid at *
  have hidm : ∀ x, x ∈ hid ↔ x ∈ s.allocs ∧ x.1 ∉ ancOf s.anc o := by
    intro x
    rw [← hhid, List.mem_filter]
    constructor
    · rintro ⟨h1, h2⟩
      refine ⟨h1, fun hm => ?_⟩
      rw [memN_iff.2 hm] at h2; cases h2
    · rintro ⟨h1, h2⟩
      refine ⟨h1, ?_⟩
      cases hb : memN x.1 (ancOf s.anc o) with
      | true => exact absurd (memN_iff.1 hb) h2
      | false => rfl
  have hidj : ∀ x ∈ hid, x.1 ≠ j := by
    intro x hx e
    have := (H.al x ((hidm x).1 hx).1).2.1
    rw [e, hnone] at this; cases this
  -- what it looks at
  have hl : ∀ t ∈ looks ops o, tsR.get t = s.ts.get t := by
    intro t ht
    by_cases hw : ∃ jj oj, ops[jj]? = some oj ∧ oj.dst = some t ∧ (s.anc.get jj).isSome
    · obtain ⟨jj, oj, g1, g2, g3⟩ := hw
      exact Q.tr1 jj oj t (hready jj (hok1 t ht jj oj g1 g2 g3)) g1 g2
    · rw [Q.tr0 t (fun jj oj hx hoj hd => hw ⟨jj, oj, hoj, hd, H.cx jj hx⟩), H.tsC t (fun jj oj hc hoj hd => hw ⟨jj, oj, hoj, hd, hc⟩)]
  obtain ⟨hops, hwant⟩ := looks_spec hl
  have a := atOp Q.rel hm rfl ho (by rw [hwant]; exact hb)
  have hfin := finish_draw (fr0 := fr0) (tsR := tsR) (l := l) (k := k) ho v
  let h2 := restore h1 s.h hid
  let pd := hid.filter fun x => decide (¬ (X x.1 ∨ x.1 = j))
  let hR2 := hideAll h2 pd
  have hg2 : ∀ i, h2.get i = if ∃ x ∈ hid, x.2 = i then s.h.get i else h1.get i := fun i => restore_get _ _ _ _
  have hn2 : h2.next = h1.next := restore_next _ _ _
  have hchar : ∀ i ob, hR2.get i = some ob ↔ h2.get i = some ob ∧ ∀ x ∈ hid, x.2 = i → X x.1 ∨ x.1 = j := by
    intro i ob
    simp only [hR2, hideAll_get]
    constructor
    · intro h
      split at h
      · cases h
      · rename_i hne
        refine ⟨h, fun x hx e => ?_⟩
        by_cases hc : X x.1 ∨ x.1 = j
        · exact hc
        · exact absurd ⟨x, by simp only [pd, List.mem_filter]; exact ⟨hx, by simpa using hc⟩, e⟩ hne
    · rintro ⟨h1, h2⟩
      rw [if_neg]
      · exact h1
      · rintro ⟨x, hx, e⟩
        simp only [pd, List.mem_filter] at hx
        have := h2 x hx.1 e
        exact absurd this (by simpa using hx.2)
  have hR2n : hR2.next = h1.next := (hideAll_next _ _).trans hn2
  have hgets := eff_step ok hsub hext Q.rel a (h0 := hideAll s.h hid) (h1 := h1) (h2 := hR2) (v := v) (by rw [effOp_congr o hops]; exact hp) hfin
    (by
      intro i ob h
      rw [hideAll_get] at h
      split at h
      · cases h
      · rename_i hne
        refine (Q.hr i ob).2 ⟨h, fun x hx e => ?_⟩
        by_cases hc : x.1 ∈ ancOf s.anc o
        · exact hanX _ hc
        · exact absurd ⟨x, (hidm x).2 ⟨hx, hc⟩, e⟩ hne)
    (by
      intro i ob h
      rw [hideAll_get] at h
      split at h
      · cases h
      · rw [hideAll_next]; exact H.hd i ob h)
    (by
      intro i ob h
      obtain ⟨h3, h4⟩ := (hchar i ob).1 h
      rw [hg2] at h3
      split at h3
      · rename_i hex
        right
        refine ⟨(Q.hr i ob).2 ⟨h3, fun x hx e => ?_⟩, by rw [hideAll_get, if_pos hex]⟩
        obtain ⟨y, hy, e'⟩ := hex
        have : x = y := H.alu x hx y ((hidm y).1 hy).1 (e.trans e'.symm)
        subst this
        exact (h4 x hy e').resolve_right (hidj x hy)
      · exact .inl h3)
    (by
      intro i ob h
      obtain ⟨h3, _⟩ := (hchar i ob).1 h
      rw [hg2] at h3
      rw [hR2n]
      split at h3
      · have := H.hd i ob h3; left; omega
      · exact .inr ⟨h3, Nat.le_refl _⟩)
    (by rw [hideAll_next]; exact hle) hR2n (by intro i hi; rw [hideAll_next, ← Q.hn]; exact Q.rel.dom i hi)
  obtain ⟨frC', csC', w', E1, D1, s1, rel1, ag1, dd1, kp1, _, new1⟩ := hgets
  rw [hideAll_next] at new1
  have hdom2 : ∀ i ob, h2.get i = some ob → i < h2.next := by
    intro i ob h
    rw [hn2]
    rw [hg2] at h
    split at h
    · have := H.hd i ob h; omega
    · rename_i hne
      have h3 := (hchar i ob).2 ⟨by rw [hg2, if_neg hne]; exact h, fun x hx e => absurd ⟨x, hx, e⟩ hne⟩
      have := (rel1.all E1 (Agree.refl _ _)).1.dom i ob h3
      rw [← hR2n]; exact this
  refine ⟨?_, drawPut fr0.nt tsR o v, hR2, frC', csC', w', D1, E1, s1, ⟨rel1, hchar, hR2n.trans hn2.symm, ?_, ?_, ?_⟩, ag1, dd1, kp1, ?_⟩
  · refine H.eff ho hr hok hanX rfl rfl (by simp only; rw [restore_next]; exact hle) (fun x hx => ((hidm x).1 hx).1) (fun x hx hn => (hidm x).2 ⟨hx, hn⟩) ?_ hdom2 ?_
    · intro x hx
      show h2.get x.2 = s.h.get x.2
      rw [hg2, if_pos ⟨x, hx, rfl⟩]
    · intro j' oj tj vj hmr hjan hoj hce hca
      have hmf : (j', tj, vj) ∈ s.reads.filter (fun x => !(memN x.1 (ancOf s.anc o))) := by
        rw [List.mem_filter]
        refine ⟨hmr, ?_⟩
        cases hb : memN j' (ancOf s.anc o) with
        | true => exact absurd (memN_iff.1 hb) hjan
        | false => rfl
      refine ⟨hmf, ?_⟩
      obtain ⟨oj', hr', g1, g2⟩ := reread_ok _ hrr _ _ _ hmf
      rw [hoj] at g1
      cases g1
      have hsame := pureOp_same ⟨hce, hca⟩ g2
      subst hsame
      refine ⟨_, g2, ?_⟩
      intro b ob hg
      rw [hideAll_get] at hg
      split at hg
      · cases hg
      · rename_i hne
        exact ⟨by rw [hideAll_next]; exact hdom2 b ob hg, hg, fun x hx e => hne ⟨x, hx, e⟩⟩
  · intro i oi t hi hoi hd
    show (drawPut fr0.nt tsR o v).get t = (drawPut fr0.nt s.ts o v).get t
    rw [drawPut_get, drawPut_get]
    by_cases hc : o.dst = some t ∧ t < fr0.nt
    · rw [if_pos hc, if_pos hc]
    · rw [if_neg hc, if_neg hc]
      rcases hi with hi | rfl
      · exact Q.tr1 i oi t hi hoi hd
      · rw [ho] at hoi
        cases hoi
        have hge : fr0.nt ≤ t := Nat.le_of_not_lt (fun hlt => hc ⟨hd, hlt⟩)
        rw [H.tsw t hge]
        exact Q.rel.wf.1 t hge
  · intro t ht
    rw [drawPut_get, if_neg (fun h => ht j o (.inr rfl) ho h.1)]
    exact Q.tr0 t (fun i oi hi hoi => ht i oi (.inl hi) hoi)
  · intro x hx hnx hD
    have hxm := ((hidm x).1 hx).1
    rcases new1 x.2 hD with hd | hd
    · exact Q.dp x hxm (fun h => hnx (.inl h)) hd
    · have := (H.al x hxm).1; omega
  · intro i hi
    rcases new1 i hi with h | h
    · exact .inl h
    · exact .inr (Nat.le_trans H.nx h)
end
end Go.Am
