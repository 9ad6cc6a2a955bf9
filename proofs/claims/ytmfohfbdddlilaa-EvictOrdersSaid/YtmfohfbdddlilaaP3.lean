/- An evaluator over symbolic values, proved sound over the model's machine, and its use at this seat; no condition. Part 3. -/
import Derived.Test.YtmfohfbdddlilaaProg
import Derived.KernelRfl
import Derived.Lib.Bytealg
import Derived.ChangeArms
import Derived.Test.YtmfohfbdddlilaaP2
set_option linter.unusedSimpArgs false
set_option linter.unusedVariables false
set_option linter.unusedSectionVars false
set_option linter.deprecated false
namespace Go.Sy
open Go.Am Go.RowKit
universe u v

section
variable {P : Program} {tab : Tab} {cfg : Cfg} {ops : Array Oper} {nt : Nat} {rec : SM → (SV → St → Prop) → Prop}
theorem Prog.trans {C C' C'' : Cx} {d d' d'' : SD} {e e' e'' : DS} {l m : List Ev} (p : Prog C d e l C' d' e') (q : Prog C' d' e' m C'' d'' e'') (H : ∀ i o, C'.Fz i = some o → e'.h.get i = some o) (H' : ∀ i o, C''.Fz i = some o → e''.h.get i = some o) : Prog C d e (l ++ m) C'' d'' e'' :=
  ⟨by rw [q.log, p.log, List.append_assoc], p.tr.trans q.tr, p.grow.trans q.grow, p.keep.trans q.keep q.tr.fz H H'⟩
theorem pass_ok (htab : cfg.tab = tab) : ∀ (l : List Oper) (k : Nat) (d : SD) (e : DS) (C : Cx) (K : SD → Prop), (∀ j o, l[j]? = some o → ops[k + j]? = some o) → passS cfg ops nt k l d K → SimD tab ops C d e →
    ∃ e' d' C', drawPass tab ops nt k l e = .ok e' ∧ K d' ∧ SimD tab ops C' d' e' ∧ Prog C d e [] C' d' e' := by
  intro l
  induction l with
  | nil =>
    intro k d e C K _ h S
    exact ⟨e, d, C, rfl, h, S, Prog.refl rfl rfl rfl rfl⟩
  | cons o l ih =>
    intro k d e C K hl h S
    have hi := hl 0 o rfl
    have hl' : ∀ j o, l[j]? = some o → ops[k + 1 + j]? = some o := fun j o' hj => by
      have := hl (j + 1) o' (by simpa using hj)
      rwa [show k + 1 + j = k + (j + 1) from by omega]
    simp only [passS, S.anc] at h
    simp only [drawPass]
    cases hr : isReady e.anc k o
    · rw [hr] at h
      exact ih (k + 1) d e C K hl' h S
    · rw [hr] at h
      simp only [cond_true] at h ⊢
      obtain ⟨r, d1, C1, g1, g2, g3, g4⟩ := float_ok htab h S (by simpa using hi)
      rw [rb g1]
      obtain ⟨e', d', C', q1, q2, q3, q4⟩ := ih (k + 1) d1 _ C1 K hl' g2 g3
      refine ⟨e', d', C', ?_, q2, q3, ?_⟩
      · cases r <;> exact q1
      · have := g4.trans q4 g3.H.fz q3.H.fz
        simpa using this
theorem EffR.mono {ts : T AV} {h0 : AH} {o : Oper} {Θ Θ' : AV → AH → Prop} (h : EffR P tab ts h0 o Θ) (hi : ∀ v h1, h0.next ≤ h1.next → Θ v h1 → Θ' v h1) : EffR P tab ts h0 o Θ' := by
  rcases h with ⟨v, h1, k1, k2, k3⟩ | ⟨c', f, g, first, captured, args, fn, body, k1, k2, k3, k4, k5, k6, k7⟩
  · exact .inl ⟨v, h1, k1, k2, hi _ _ k2 k3⟩
  · exact .inr ⟨c', f, g, first, captured, args, fn, body, k1, k2, k3, k4, k5, k6, k7.mono fun v h1 ⟨a, b⟩ => ⟨a, hi _ _ a b⟩⟩
theorem reread_of {h : AH} : ∀ {l : List (Nat × T AV × AV)}, (∀ x ∈ l, ∃ o h1, ops[x.1]? = some o ∧ pureOp tab x.2.1 h o = .ok (x.2.2, h1) ∧ AV.beq x.2.2 x.2.2 = true) → reread tab ops h l = .ok () := by
  intro l
  induction l with
  | nil => intro _; rfl
  | cons x l ih =>
    intro hx
    obtain ⟨i, ts, v⟩ := x
    obtain ⟨o, h1, g1, g2, g3⟩ := hx _ List.mem_cons_self
    simp only at g1 g2 g3
    simp only [reread]
    rw [rb (ro g1), rb g2]
    simp only
    rw [rb (rc g3)]
    exact ih fun y hy => hx y (List.mem_cons_of_mem _ hy)
theorem onLog_miss : ∀ (log : List Ev) (s : SV) (b : Nat), (∀ e ∈ log, e.id ≠ b) → (s = .own b ∨ s = .eptr b 1 0 ∨ s = .ptr b 0) → onLog log s = s := by
  intro log
  induction log with
  | nil => intro s b _ _; rfl
  | cons e l ih =>
    intro s b hb hs
    have h1 := hb e List.mem_cons_self
    have : s.on e = s := by
      rcases hs with rfl | rfl | rfl <;> cases e <;> simp only [Ev.id] at h1 <;> simp only [SV.on] <;> first | rfl | (rw [beq_ne (fun h => h1 h.symm)]; rfl)
    simp only [onLog, this]
    exact ih s b (fun e' he => hb e' (List.mem_cons_of_mem _ he)) hs
/-- A block that no event tells of is where it was. -/
theorem Tr.same {C C' : Cx} {log : List Ev} (hT : Tr C log C') {p : Nat} {I : BI} (hI : C.ρ p = some I) (hc : I.cap.isSome) (hm : ∀ e ∈ log, e.id ≠ p) : C'.ρ p = some I := by
  obtain ⟨c, hc'⟩ := Option.isSome_iff_exists.1 hc
  have h1 := hT.val _ _ (.own hI hc')
  rw [onLog_miss log _ p hm (.inl rfl)] at h1
  have h2 := hT.val _ _ (.eptr (i := 1) (off := 0) hI hc)
  rw [onLog_miss log _ p hm (.inr (.inl rfl))] at h2
  obtain ⟨β, len, sz, cap⟩ := I
  simp only at h1 h2 hc'
  subst hc'
  generalize hv1 : AV.sl β 0 len c = v1 at h1
  generalize hv2 : AV.ptr β (1 * sz + 0) = v2 at h2
  cases h1 with
  | pure h => cases h
  | own0 hJ hc => cases hv1
  | own hJ hc =>
    rename_i J c2
    cases h2 with
    | pure h => cases h
    | eptr hJ' hc2 =>
      rw [hJ] at hJ'
      cases hJ'
      cases hv1
      simp only [AV.ptr.injEq] at hv2
      rw [hJ]
      obtain ⟨β', len', sz', cap'⟩ := J
      simp only at hc hv2 ⊢
      subst hc
      have : sz = sz' := by omega
      rw [this]
theorem logO_some (o : SO) : ∀ (log : List Ev), ∃ o', logO (some o) log = some o' ∧ ∀ {C C' : Cx} {I : BI} {a a' : AH}, Tr C log C' → a'.get I.β = a.get I.β → SimO tab C I o a → SimO tab C' I o' a' := by
  intro log
  cases o with
  | cells cs t =>
    have : ∀ (log : List Ev) (cs : List SV), logO (some (.cells cs t)) log = some (.cells (cs.map (onLog log)) t) := by
      intro log
      induction log with
      | nil => intro cs; simp [logO]; exact (List.map_id'' (fun _ => rfl) cs).symm
      | cons e l ih => intro cs; simp only [logO, Option.map_some, SO.on, ih, onL_eq, List.map_map]; rfl
    refine ⟨_, this log cs, fun hT hg ho => ?_⟩
    obtain ⟨g1, ca, sz, g2, g3, g4⟩ := ho
    refine ⟨g1, ca, sz, by rw [hg]; exact g2, ⟨by simpa using g3.1, fun i s v hs hv => ?_⟩, g4⟩
    rw [List.getElem?_map] at hs
    obtain ⟨s0, h0, rfl⟩ := Option.map_eq_some_iff.1 hs
    exact hT.val _ _ (g3.2 i s0 v h0 hv)
  | arr X L enc t =>
    have : ∀ (log : List Ev), logO (some (.arr X L enc t)) log = some (.arr X L enc t) := by
      intro log
      induction log with
      | nil => rfl
      | cons e l ih => simp only [logO, Option.map_some, SO.on, ih]
    refine ⟨_, this log, fun {C C' I a a'} hT hg ho => ?_⟩
    obtain ⟨h1, h2, h3, h4, h5⟩ := ho
    refine ⟨h1, h2, h3, h4, ?_⟩
    cases hcap : I.cap with
    | none => rw [hcap] at h5; exact h5
    | some c =>
      rw [hcap] at h5
      obtain ⟨ca, ext, bk, g1, g2, g3, g4, g5⟩ := h5
      refine ⟨ca, ext, bk, by rw [hg]; exact g1, g2, g3, g4, fun i x j v hx hv => ?_⟩
      obtain ⟨u, k1, k2⟩ := g5 i x j v hx hv
      exact ⟨u, k1, k2.mono hT.fz⟩
end
end Go.Sy

namespace Go.Sy
open Go.Am Go.RowKit
universe u v

section
variable {P : Program} {tab : Tab} {cfg : Cfg} {ops : Array Oper} {nt : Nat} {rec : SM → (SV → St → Prop) → Prop}
theorem modded_mem {p : Nat} : ∀ {l : List Ev}, p ∈ modded l → ∃ e ∈ l, e.id = p := by
  intro l
  induction l with
  | nil => intro h; cases h
  | cons e l ih =>
    intro h
    cases e with
    | kill b =>
      rcases List.mem_cons.1 h with rfl | h
      · exact ⟨_, List.mem_cons_self, rfl⟩
      · obtain ⟨e, h1, h2⟩ := ih h; exact ⟨e, List.mem_cons_of_mem _ h1, h2⟩
    | mod b =>
      rcases List.mem_cons.1 h with rfl | h
      · exact ⟨_, List.mem_cons_self, rfl⟩
      · obtain ⟨e, h1, h2⟩ := ih h; exact ⟨e, List.mem_cons_of_mem _ h1, h2⟩
    | frz b X L enc => obtain ⟨e, h1, h2⟩ := ih h; exact ⟨e, List.mem_cons_of_mem _ h1, h2⟩
theorem miss_of {log : List Ev} {b : Nat} (h : (!(memN b (log.map Ev.id))) = true) : ∀ e ∈ log, e.id ≠ b := by
  intro e he hb
  have : memN b (log.map Ev.id) = true := memN_iff.2 (List.mem_map.2 ⟨e, he, hb⟩)
  rw [this] at h; cases h

/-- What was hidden comes again. -/
theorem HS.bare {C C' : Cx} {h h' : SH} {a h1 : AH} {log : List Ev} {hid hidA : List (Nat × Nat)} (H : HS tab C h a) (hal : AlR C h hid hidA) (hT : Tr C log C') (H' : HS tab C' h' h1) (hG : Grow (hideAll a hidA) h1) (hm : ∀ x ∈ hid, ∀ e ∈ log, e.id ≠ x.2) :
    HS tab C' (bareS h' h log hid) (restore h1 a hidA) ∧ (∀ i b, h1.get i = some b → (restore h1 a hidA).get i = h1.get i) ∧ (∀ y ∈ hidA, h1.get y.2 = none) ∧ (∀ x ∈ hid, ∀ o I, h.get x.2 = some o → C.ρ x.2 = some I → I.cap.isSome → (restore h1 a hidA).get I.β = a.get I.β ∧ ∃ o', (bareS h' h log hid).get x.2 = some o' ∧ C'.ρ x.2 = some I) := by
  have hlt : ∀ y ∈ hidA, y.2 < a.next := by
    intro y hy
    obtain ⟨x, hx, o, I, g1, g2, g3, g4⟩ := hal.right y hy
    obtain ⟨b, hb⟩ := (H.at_ g1 g2).live g3
    rw [← g4]; exact H.wf _ _ hb
  have hnone : ∀ y ∈ hidA, h1.get y.2 = none := by
    intro y hy
    cases hz : h1.get y.2 with
    | none => rfl
    | some b =>
      rcases hG.old _ _ hz with ⟨o0, h0⟩ | hge
      · rw [hideAll_get, if_pos ⟨y, hy, rfl⟩] at h0; cases h0
      · rw [hideAll_next] at hge
        have := hlt y hy; omega
  have hlive : ∀ i b, h1.get i = some b → (restore h1 a hidA).get i = h1.get i := by
    intro i b hi
    rw [restore_get, if_neg]
    rintro ⟨y, hy, rfl⟩
    rw [hnone y hy] at hi; cases hi
  have hhid : ∀ x ∈ hid, ∀ o I, h.get x.2 = some o → C.ρ x.2 = some I → I.cap.isSome → (restore h1 a hidA).get I.β = a.get I.β ∧ h1.get I.β = none ∧ ∃ o', (bareS h' h log hid).get x.2 = some o' ∧ C'.ρ x.2 = some I ∧ SimO tab C' I o' (restore h1 a hidA) := by
    intro x hx o I ho hI hc
    obtain ⟨o1, I1, g1, g2, g3, y, hy, g4⟩ := hal.left x hx
    rw [hI] at g2; cases g2
    have e1 : (restore h1 a hidA).get I.β = a.get I.β := by rw [restore_get, if_pos ⟨y, hy, g4⟩]
    obtain ⟨o', k1, k2⟩ := logO_some o log
    refine ⟨e1, by rw [← g4]; exact hnone y hy, o', ?_, hT.same hI hc (hm x hx), k2 hT e1 (H.at_ ho hI)⟩
    rw [bareS_get, if_pos ⟨x, hx, rfl⟩, ho]; exact k1
  refine ⟨⟨?_, ?_, ?_, ?_, ?_, ?_⟩, hlive, hnone, fun x hx o I ho hI hc => ?_⟩
  · intro p o hp
    rw [bareS_get] at hp
    split at hp
    · rename_i hex
      obtain ⟨x, hx, rfl⟩ := hex
      obtain ⟨o1, I1, g1, g2, g3, _⟩ := hal.left x hx
      obtain ⟨_, _, o', k1, k2, k3⟩ := hhid x hx o1 I1 g1 g2 g3
      rw [bareS_get, if_pos ⟨x, hx, rfl⟩, hp] at k1
      cases k1
      exact ⟨I1, k2, k3⟩
    · obtain ⟨I, hI, ho⟩ := H'.obj p o hp
      refine ⟨I, hI, ?_⟩
      by_cases hc : I.cap.isSome
      · obtain ⟨b, hb⟩ := ho.live hc
        exact ho.congr (hlive _ _ hb)
      · cases o with
        | cells cs t => exact absurd ho.1 hc
        | arr X L enc t =>
          obtain ⟨g1, g2, g3, g4, g5⟩ := ho
          refine ⟨g1, g2, g3, g4, ?_⟩
          cases hcap : I.cap with
          | none => rw [hcap] at g5; exact g5
          | some c => rw [hcap] at hc; simp at hc
  · have key : ∀ p q o' I J, (∃ x ∈ hid, x.2 = p) → h'.get q = some o' → C'.ρ p = some I → C'.ρ q = some J → I.cap.isSome → J.cap.isSome → I.β ≠ J.β := by
      rintro p q o' I J ⟨x, hx, rfl⟩ hq hI hJ hc hc' e
      obtain ⟨o1, I1, g1, g2, g3, _⟩ := hal.left x hx
      obtain ⟨_, k0, _, _, k2, _⟩ := hhid x hx o1 I1 g1 g2 g3
      rw [hI] at k2; cases k2
      obtain ⟨b, hb⟩ := (H'.at_ hq hJ).live hc'
      rw [← e, k0] at hb; cases hb
    intro p q o o' I J hp hq hI hJ hc hc' e
    rw [bareS_get] at hp hq
    split at hp
    · rename_i h3
      split at hq
      · rename_i h4
        obtain ⟨x, hx, rfl⟩ := h3
        obtain ⟨z, hz, rfl⟩ := h4
        obtain ⟨o1, I1, g1, g2, g3, _⟩ := hal.left x hx
        obtain ⟨_, _, _, _, k2, _⟩ := hhid x hx o1 I1 g1 g2 g3
        obtain ⟨o2, I2, q1, q2, q3, _⟩ := hal.left z hz
        obtain ⟨_, _, _, _, k3, _⟩ := hhid z hz o2 I2 q1 q2 q3
        rw [hI] at k2; cases k2
        rw [hJ] at k3; cases k3
        exact H.inj _ _ o1 o2 I J g1 q1 g2 q2 g3 q3 e
      · exact absurd e (key p q o' I J h3 hq hI hJ hc hc')
    · split at hq
      · rename_i h4
        exact absurd e.symm (key q p o J I h4 hp hJ hI hc' hc)
      · exact H'.inj p q o o' I J hp hq hI hJ hc hc' e
  · intro i o hi
    have := H'.fz i o hi
    rw [hlive i o this]; exact this
  · intro p o I hp hI hc
    rw [bareS_get] at hp
    split at hp
    · rename_i h3
      obtain ⟨x, hx, rfl⟩ := h3
      obtain ⟨o1, I1, g1, g2, g3, _⟩ := hal.left x hx
      obtain ⟨_, k0, _, _, k2, _⟩ := hhid x hx o1 I1 g1 g2 g3
      rw [hI] at k2; cases k2
      cases hz : C'.Fz I.β with
      | none => rfl
      | some b =>
        have := H'.fz _ _ hz
        rw [k0] at this; cases this
    · exact H'.dj p o I hp hI hc
  · intro p I hI
    rw [bareS_next]; exact H'.lt p I hI
  · intro i o hi
    rw [restore_next]
    rw [restore_get] at hi
    split at hi
    · have := H.wf i o hi
      have h2 := hG.next
      rw [hideAll_next] at h2
      omega
    · exact H'.wf i o hi
  · obtain ⟨k1, _, o', k2, k3, _⟩ := hhid x hx o I ho hI hc
    exact ⟨k1, o', k2, k3⟩
end
end Go.Sy

namespace Go.Sy
open Go.Am Go.RowKit
universe u v

section
variable {P : Program} {tab : Tab} {cfg : Cfg} {ops : Array Oper} {nt : Nat} {rec : SM → (SV → St → Prop) → Prop}
theorem eff_ok (htab : cfg.tab = tab) (hrec : RecOK P tab rec) (hcon : ∀ g C, cfg.con g = some C → ConOK P tab g C) {C : Cx} {d : SD} {e : DS} {i : Nat} {o : Oper} {K : SD → Prop} (h : effS cfg rec ops nt i o d K) (S : SimD tab ops C d e) :
    EffD P tab ops nt i o e fun e' => ∃ d' C' new, K d' ∧ SimD tab ops C' d' e' ∧ Prog C d e new C' d' e' := by
  obtain ⟨s, anc, reads, allocs⟩ := d
  obtain ⟨hF, H, hanc, hal, hrd⟩ := S
  simp only at hF H hanc hal hrd
  subst hanc
  simp only [effS] at h
  obtain ⟨hok, h⟩ := ck_ok h
  obtain ⟨w, s1, h1, hw, hF1, eh, el⟩ := guardS_ok h hF
  clear h
  obtain ⟨rfl, h1⟩ := ck_ok h1
  have h := forceL_ok (forceL_ok (forceT_ok (forceL_ok h1)))
  clear h1
  obtain ⟨ts, hh, log⟩ := s1
  simp only at h eh el hF1
  subst eh
  have halh := hal.filter (fun j => !(memN j (ancOf e.anc o)))
  generalize hhd : (allocs.filter fun x => !(memN x.1 (ancOf e.anc o))) = hid at h halh
  generalize hhA : (e.allocs.filter fun x => !(memN x.1 (ancOf e.anc o))) = hidA at halh
  have hnot : ∀ p o' I, s.h.get p = some o' → C.ρ p = some I → I.cap.isSome → (¬ ∃ x ∈ hid, x.2 = p) → ¬ ∃ y ∈ hidA, y.2 = I.β := by
    rintro p o' I hp hI hc hn ⟨y, hy, hyb⟩
    obtain ⟨x, hx, ox, Ix, x1, x2, x3, x4⟩ := halh.right y hy
    exact hn ⟨x, hx, (H.inj p x.2 o' ox I Ix hp x1 hI x2 hc x3 (by rw [x4, hyb])).symm⟩
  have hfz : ∀ j ob, C.Fz j = some ob → ¬ ∃ y ∈ hidA, y.2 = j := by
    rintro j ob hj ⟨y, hy, rfl⟩
    obtain ⟨x, hx, ox, Ix, x1, x2, x3, x4⟩ := halh.right y hy
    have := H.dj x.2 ox Ix x1 x2 x3
    rw [x4, hj] at this; cases this
  have Hh : HS tab C (hideS s.h hid) (hideAll e.h hidA) := by
    refine H.part (hideS_next _ _) (fun p o' hp => ?_) (fun j ob hj => ?_) (hideAll_next _ _) (fun j ob hj => ?_) (fun p o' I hp hI hc => ?_)
    · rw [hideS_get] at hp
      split at hp
      · cases hp
      · exact hp
    · rw [hideAll_get] at hj
      split at hj
      · cases hj
      · exact hj
    · rw [hideAll_get, if_neg (hfz j ob hj)]; exact H.fz j ob hj
    · rw [hideS_get] at hp
      split at hp
      · cases hp
      · rename_i hn
        rw [hideAll_get, if_neg (hnot p o' I hp hI hc hn)]
  have heff := execS_ok (s := ⟨ts, hideS s.h hid, []⟩) (ta := e.ts) htab hrec hcon h hF1 Hh
  refine ⟨hok, hw, ?_⟩
  rw [hhA]
  refine heff.mono ?_
  rintro v h1 hle ⟨sv, s', hk, ⟨⟨C', new, e1, e2, e3, e4, e5, e6⟩, e7⟩⟩
  obtain ⟨ts', h', log'⟩ := s'
  simp only [List.nil_append] at e1 hk e4 e5
  subst e1
  obtain ⟨hck, hk⟩ := ck_ok hk
  simp only [Bool.and_eq_true, List.all_eq_true] at hck
  obtain ⟨hck1, hck2⟩ := hck
  obtain ⟨B1, B2, B3, B4⟩ := H.bare halh e2 e4 e7 (fun x hx => miss_of (hck2 x hx))
  obtain ⟨s2, k1, k2, k3, k4⟩ := putS_ok (s := ⟨ts', bareS h' s.h log' hid, log ++ log'⟩) hk e5 e3
  have hread : ∀ x ∈ e.reads.filter (fun x => !(memN x.1 (ancOf e.anc o))), ∃ rs, (x.1, rs) ∈ reads.filter (fun x => !(memN x.1 (ancOf e.anc o))) ∧ Stb tab ops C s.h e.h x rs ∧
      ∀ p ∈ rs, (∀ e ∈ log', e.id ≠ p) ∧ (h'.get p).isSome ∧ ¬ ∃ y ∈ hid, y.2 = p := by
    intro x hx
    obtain ⟨hx1, hx2⟩ := List.mem_filter.1 hx
    obtain ⟨rs, g1, g2⟩ := hrd x hx1
    have hm : (x.1, rs) ∈ reads.filter (fun x => !(memN x.1 (ancOf e.anc o))) := List.mem_filter.2 ⟨g1, hx2⟩
    refine ⟨rs, hm, g2, fun p hp => ?_⟩
    have h5 := hck1 _ hm p hp
    refine ⟨miss_of h5.1.1, h5.1.2, ?_⟩
    rintro ⟨y, hy, rfl⟩
    have h6 := h5.2 y hy
    simp at h6
  have hkeep : ∀ p o' I, s.h.get p = some o' → C.ρ p = some I → I.cap.isSome → (∀ e ∈ log', e.id ≠ p) → (h'.get p).isSome → (¬ ∃ y ∈ hid, y.2 = p) →
      (restore h1 e.h hidA).get I.β = e.h.get I.β ∧ ∃ o', (bareS h' s.h log' hid).get p = some o' ∧ C'.ρ p = some I := by
    intro p o' I hp hI hc hm hs hn
    obtain ⟨k, _⟩ := e6 p o' I (by simp only; rw [hideS_get, if_neg hn]; exact hp) hI hc (fun hmm => by
      obtain ⟨e', he', hid'⟩ := modded_mem hmm
      exact hm e' he' hid')
    rw [hideAll_get, if_neg (hnot p o' I hp hI hc hn)] at k
    obtain ⟨o2, ho2⟩ := Option.isSome_iff_exists.1 hs
    refine ⟨?_, o2, by rw [bareS_get, if_neg hn]; exact ho2, e2.same hI hc hm⟩
    rw [restore_get, if_neg (hnot p o' I hp hI hc hn)]; exact k
  have hstb : ∀ x ∈ e.reads.filter (fun x => !(memN x.1 (ancOf e.anc o))), ∃ rs, (x.1, rs) ∈ reads.filter (fun x => !(memN x.1 (ancOf e.anc o))) ∧ Stb tab ops C' (bareS h' s.h log' hid) (restore h1 e.h hidA) x rs := by
    intro x hx
    obtain ⟨rs, g1, g2, g3⟩ := hread x hx
    exact ⟨rs, g1, g2.mono e2.fz fun p hp o' I hpo hI hc => hkeep p o' I hpo hI hc (g3 p hp).1 (g3 p hp).2.1 (g3 p hp).2.2⟩
  refine ⟨reread_of fun x hx => ?_, _, C', log', k1, ⟨?_, ?_, rfl, ?_, ?_⟩, ⟨?_, e2, ?_, ?_⟩⟩
  · obtain ⟨rs, g1, g2, g3⟩ := hread x hx
    obtain ⟨ox, a0, hx1, q1, q2, q3, qb, q4, q5⟩ := g2
    refine ⟨ox, _, q1, pureOp_mono q2 q3 (h := hideAll (restore h1 e.h hidA) hidA) (fun β ob hβ => ?_) q4, qb⟩
    rcases q5 β ob hβ with hz | ⟨hz, p, hp, o', I, p1, p2, p3, rfl⟩
    · rw [hideAll_get, if_neg (hfz β ob hz), restore_get, if_neg (hfz β ob hz)]
      exact e4.fz _ _ (e2.fz _ _ hz)
    · obtain ⟨r1, r2, r3⟩ := g3 p hp
      rw [hideAll_get, if_neg (hnot p o' I p1 p2 p3 r3), (hkeep p o' I p1 p2 p3 r1 r2 r3).1]; exact hz
  · simp only; rw [drawPut_eq]; exact k2
  · simp only; rw [k3]; exact B1
  · simp only; rw [k3]
    exact halh.mono fun x hx o' I hp hI hc => (B4 x hx o' I hp hI hc).2
  · simp only; rw [k3]; exact hstb
  · simp only; rw [k4]; simp only; rw [el]
  · refine ⟨?_, fun j ob hj => ?_⟩
    · simp only; rw [restore_next]; have := e7.next; rw [hideAll_next] at this; exact this
    · simp only at hj
      rw [restore_get] at hj
      split at hj
      · exact .inl ⟨ob, hj⟩
      · rcases e7.old j ob hj with ⟨o0, h0⟩ | hge
        · rw [hideAll_get] at h0
          split at h0
          · cases h0
          · exact .inl ⟨o0, h0⟩
        · rw [hideAll_next] at hge; exact .inr hge
  · simp only; rw [k3]
    intro p o' I hp hI hc hm
    by_cases hn : ∃ y ∈ hid, y.2 = p
    · obtain ⟨y, hy, rfl⟩ := hn
      obtain ⟨q1, q2⟩ := B4 y hy o' I hp hI hc
      exact ⟨q1, .inl q2⟩
    · obtain ⟨q1, q2⟩ := e6 p o' I (by simp only; rw [hideS_get, if_neg hn]; exact hp) hI hc hm
      rw [hideAll_get, if_neg (hnot p o' I hp hI hc hn)] at q1
      refine ⟨by rw [restore_get, if_neg (hnot p o' I hp hI hc hn)]; exact q1, ?_⟩
      rcases q2 with ⟨o2, r1, r2⟩ | r
      · exact .inl ⟨o2, by simp only; rw [bareS_get, if_neg hn]; exact r1, r2⟩
      · exact .inr r
theorem draws_ok (htab : cfg.tab = tab) (hrec : RecOK P tab rec) (hcon : ∀ g C, cfg.con g = some C → ConOK P tab g C) : DrawsOK P tab cfg rec := by
  have main : ∀ (ops : Array Oper) (nt n : Nat) (d : SD) (e : DS) (C : Cx) (K : St → Prop), drawS cfg rec ops nt n d K → SimD tab ops C d e →
      TodoR P tab ops nt (fun sF => ∃ s' C' new, K s' ∧ s'.log = d.s.log ++ new ∧ Tr C new C' ∧ HS tab C' s'.h sF.h ∧ FS C' s'.ts sF.ts ∧ Grow e.h sF.h ∧ Keep C d.s.h e.h new C' s'.h sF.h) n e := by
    intro ops nt n
    induction n with
    | zero => intro d e C K h; exact h.elim
    | succ n ih =>
      intro d e C K h S
      simp only [drawS] at h
      obtain ⟨e1, d1, C1, g1, g2, g3, g4⟩ := pass_ok htab ops.toList 0 d e C _ (fun j o hj => by simpa using hj) h S
      refine ⟨e1, g1, ?_⟩
      rw [g3.anc] at g2
      split at g2
      · rename_i hc
        obtain ⟨_, hk⟩ := ck_ok g2
        exact .inl ⟨hc, d1.s, C1, [], hk, g4.log, g4.tr, g3.H, g3.F, g4.grow, g4.keep⟩
      · rename_i c o hc
        refine .inr ⟨c, o, hc, ?_⟩
        obtain ⟨q1, q2, q3⟩ := eff_ok htab hrec hcon g2 g3
        refine ⟨q1, q2, q3.mono fun v h1 _ hΘ => ⟨hΘ.1, ?_⟩⟩
        obtain ⟨d2, C2, new, k1, k2, k3⟩ := hΘ.2
        refine TodoR.mono ?_ _ _ (ih d2 _ C2 K k1 k2)
        rintro sF ⟨s', C', new', r1, r2, r3, r4, r5, r6, r7⟩
        have p := g4.trans k3 g3.H.fz k2.H.fz
        simp only [List.nil_append] at p
        exact ⟨s', C', new ++ new', r1, by rw [r2, p.log, List.append_assoc], p.tr.trans r3, r4, r5, p.grow.trans r6, p.keep.trans r7 r3.fz k2.H.fz r4.fz⟩
      · exact g2.elim
  intro ops nt n s K ta a C h hF H
  exact main ops nt n ⟨s, .e, [], []⟩ { ts := ta, h := a, anc := .e, reads := [], allocs := [] } C K h ⟨hF, H, rfl, trivial, fun x hx => by cases hx⟩
/-- The verification condition holds: so does what it is asked for. -/
theorem wp_ok (pr : PrOK P tab) (htab : cfg.tab = tab) (hcon : ∀ g C, cfg.con g = some C → ConOK P tab g C) (n : Nat) : RecOK P tab (wp cfg n) :=
  wp_sound pr htab hcon (fun _ hrec => draws_ok htab hrec hcon) n
end
end Go.Sy

namespace Go.Sy
open Go.Am Go.RowKit
universe u v

section
variable (cfg : Cfg)
/-- Is a result what a contract says? -/
def resM (e v : SV) (s : St) : Prop :=
  match s with
  | ⟨_, h, _⟩ => match e, v with
    | .tup es, .tup vs => argM cfg 1000 es vs ⟨[], h, []⟩ fun _ => True
    | .tup _, _ => False
    | e, v => argM cfg 1000 [e] [v] ⟨[], h, []⟩ fun _ => True
/-- What is asked for a contract. -/
def askC (n : Nat) (f : FuncId) (C : Con) : Prop := ∀ y : C.Y, C.pre y → ask cfg n f (C.args y) (resM cfg (C.res y))
end
section
variable {P : Program} {tab : Tab} {cfg : Cfg}
theorem resM_ok (htab : cfg.tab = tab) {e v : SV} {s : St} (h : resM cfg e v s) {C : Cx} {a : AH} {av : AV} (H : HS tab C s.h a) (hv : SimV C v av) : ∃ Fz' : Nat → Option AO, (∀ i o, C.Fz i = some o → Fz' i = some o) ∧ (∀ i o, Fz' i = some o → a.get i = some o) ∧ SimP Fz' e av := by
  obtain ⟨ts, hh, log⟩ := s
  have one : ∀ (e v : SV), argM cfg 1000 [e] [v] ⟨[], hh, []⟩ (fun _ => True) → SimV C v av → ∃ Fz' : Nat → Option AO, (∀ i o, C.Fz i = some o → Fz' i = some o) ∧ (∀ i o, Fz' i = some o → a.get i = some o) ∧ SimP Fz' e av := by
    intro e v h hv
    obtain ⟨C1, new, s1, g1, g2, g3, g4, g5, _, g7⟩ := argM_ok (ta := .e) htab 1000 _ _ [av] _ C _ h (SimL.cons hv SimL.nil) (fun t s hs => by simp [look] at hs) H
    exact ⟨C1.Fz, g2.fz, g3.fz, g7.2 0 e av rfl rfl⟩
  simp only [resM] at h
  split at h
  · rename_i es vs
    obtain ⟨us, rfl, hs⟩ := tup_ok hv
    obtain ⟨C1, new, s1, g1, g2, g3, g4, g5, _, g7⟩ := argM_ok (ta := .e) htab 1000 _ _ us _ C _ h hs (fun t s hs => by simp [look] at hs) H
    exact ⟨C1.Fz, g2.fz, g3.fz, .tup g7.1 g7.2⟩
  · exact h.elim
  · exact one _ _ h hv
theorem askC_ok (pr : PrOK P tab) (htab : cfg.tab = tab) (hcon : ∀ g C, cfg.con g = some C → ConOK P tab g C) {n : Nat} {f : FuncId} {C : Con} (h : askC cfg n f C) : ConOK P tab f C := by
  refine ConOK.of fun fn body hfn hb y hy C0 a avs hρ H hlen hav => ?_
  have h1 := h y hy
  unfold ask at h1
  rw [htab, hfn] at h1
  simp only [hb] at h1
  refine (wp_ok pr htab hcon n f fn body (C.args y) ⟨0, []⟩ a C0 avs _ hfn hb h1 H ⟨hlen, fun i s v hs hv => .pure (hav i s v hs hv)⟩).mono ?_
  rintro v a' ⟨sv, s', C', k1, k2, k3, k4⟩
  exact ⟨sv, s', C', fun C1 a1 av H1 hv1 => resM_ok htab k1 H1 hv1, k2, k3, k4⟩
end
end Go.Sy

namespace Go.Sy
open Go.Am Go.RowKit
universe u v

/-- True. -/
def isT (v : SV) (_ : St) : Prop := match v with | .bool b => b = true | _ => False
section
variable {P : Program} {tab : Tab} {cfg : Cfg}
/-- A law whose arguments hold no block. -/
theorem law_of_ask (pr : PrOK P tab) (htab : cfg.tab = tab) (hcon : ∀ g C, cfg.con g = some C → ConOK P tab g C) {n : Nat} {f : FuncId} {fn : Func} {body : Code} {svs : List SV} {avs : List AV} {argsC : Array Value} {w : World} (hfn : tab.fns.get f = some fn) (hb : fn.body = some body)
    (h : ask cfg n f svs isT) (hs : SimL ⟨fun _ => none, fun _ => none⟩ svs avs) (hargs : ∀ E, (concL E avs).toArray = argsC) :
    Calls P f argsC w (fun e w' => e = .returned (.bool true) ∧ Below w.heap.size w w') := by
  unfold ask at h
  rw [htab, hfn] at h
  simp only [hb] at h
  have hget : ∀ i, emptyH.get i = none := fun i => rfl
  have hgo := wp_ok pr htab hcon n f fn body svs ⟨0, []⟩ emptyH ⟨fun _ => none, fun _ => none⟩ avs _ hfn hb h
    ⟨fun p o hp => (by simp [SH.get, look] at hp), fun p q o o' I J hp => (by simp [SH.get, look] at hp), fun i o hi => (by cases hi), fun p o I hp => (by simp [SH.get, look] at hp), fun p I hp => (by cases hp), fun i o hi => (by rw [hget] at hi; cases hi)⟩ hs
  intro cs
  have hP := pr.ok.fns f fn hfn
  let E : Env := ⟨fun _ => 0, fun _ => 0⟩
  let D : Nat → Prop := fun _ => False
  have hR : Rel D E (KS.old w.heap.size) { fr := AFrame.enter fn f body avs .normal, cs := [], h := emptyH } cs (Frame.enter P f argsC .normal) cs w := by
    refine ⟨fun E' _ => ⟨empty_ok E' _ w (fun b h => h) (fun b h => h), ?_, rfl⟩, fun i h => h.elim, enter_wf _ _ _ _ _, fun f hf => by cases hf⟩
    rw [← hargs E', enter_conc hP hb]
  obtain ⟨v, h', ⟨sv, s', C', hQ, hsv, _⟩, fr', w', v', E', D', s1, s2, s3, s4, s5, s6, s7, s8, s9, s10⟩ := hgo D E _ cs _ cs w hR
  obtain ⟨_, g2⟩ := s4 E' (Agree.refl _ _)
  have hv : v = .bool true := by
    unfold isT at hQ
    split at hQ
    · rw [hQ] at hsv; exact bool_ok hsv
    · exact hQ.elim
  subst hv
  subst g2
  exact ⟨.returned (.bool true), w', fr', ⟨rfl, s8.os, s8.tape, s8.output, s8.size, s8.block⟩, s1, s2, s3⟩
end
end Go.Sy

namespace Go.Sy
open Go.Am Go.RowKit
universe u v

section
variable {P : Program} {tab : Tab}
/-- A call of which neither arguments nor result hold a block, from wherever. -/
theorem AGo.shut (ok : TabOK P tab) {f : FuncId} {fn : Func} {body : Code} {avs : List AV} {Θ : AV → AH → Prop} (hfn : tab.fns.get f = some fn) (hb : fn.body = some body) (hgo : AGo P { fr := AFrame.enter fn f body avs .normal, cs := [], h := emptyH } Θ)
    (hargs : ∀ E E', concL E avs = concL E' avs) (hv : ∀ v h', Θ v h' → ∀ E E', conc E v = conc E' v) (a : AH) : AGo P { fr := AFrame.enter fn f body avs .normal, cs := [], h := a } fun v a' => a' = a ∧ ∃ h', Θ v h' := by
  intro D E K base frC csC w hR
  have hP := ok.fns f fn hfn
  obtain ⟨q1, q2, q3⟩ := hR.all E (Agree.refl _ _)
  have hR0 : Rel (fun _ => False) E (KS.old w.heap.size) { fr := AFrame.enter fn f body avs .normal, cs := [], h := emptyH } base frC csC w := by
    refine ⟨fun E' _ => ⟨empty_ok E' _ w (fun b h => h) (fun b h => h), ?_, q3⟩, fun i h => h.elim, hR.wf⟩
    rw [← q2]
    simp only
    rw [← enter_conc hP hb, ← enter_conc hP hb, hargs E' E]
  obtain ⟨v, h', hΘ, fr', w', v', E', D', s1, s2, s3, s4, s5, s6, s7, s8, s9, s10⟩ := hgo _ E _ base frC csC w hR0
  refine ⟨v, a, ⟨rfl, h', hΘ⟩, fr', w', v', E, D, s1, s2, s3, fun E'' he => ⟨?_, ?_⟩, Agree.refl _ _, fun _ h => h, hR.dom, ⟨s8.os, s8.tape, s8.output, s8.size, fun b hb' => s8.block b (q1.kb b hb')⟩, Nat.le_refl _, fun i hi => .inl hi⟩
  · obtain ⟨g1, _, _⟩ := hR.all E'' he
    refine ⟨fun i o hi => ?_, g1.nk, g1.inj, g1.dom, fun b hb' => Nat.lt_of_lt_of_le (g1.kb b hb') s8.size, g1.im, g1.k0⟩
    obtain ⟨c, h1, h2⟩ := g1.obj i o hi
    refine ⟨c, ?_, h2⟩
    rw [s8.block _ (Array.getElem?_eq_some_iff.1 h1).1]; exact h1
  · rw [← (s4 E' (Agree.refl _ _)).2]; exact hv v h' hΘ _ _
/-- The contract of a closed run. -/
theorem ConOK.shut (pr : PrOK P tab) {f : FuncId} {C : Con} (h : ∀ fn body, tab.fns.get f = some fn → fn.body = some body → ∀ y, C.pre y → ∀ avs Fz, PL Fz (C.args y) avs → (∀ E E', concL E avs = concL E' avs) ∧ ∃ Θ : AV → AH → Prop, AGo P { fr := AFrame.enter fn f body avs .normal, cs := [], h := emptyH } Θ ∧ ∀ v h', Θ v h' → (∀ E E', conc E v = conc E' v) ∧ SimP (fun _ => none) (C.res y) v) : ConOK P tab f C := by
  intro fn body hfn hb y hy Fz a avs hfz hwf hlen hav
  obtain ⟨h1, Θ, h2, h3⟩ := h fn body hfn hb y hy avs Fz ⟨hlen, hav⟩
  refine (AGo.shut pr.ok hfn hb h2 h1 (fun v h' hv => (h3 v h' hv).1) a).mono ?_
  rintro v a' ⟨rfl, h', hv⟩
  exact ⟨Fz, fun _ _ h => h, hfz, (h3 v h' hv).2.mono (fun _ _ h => by cases h), Grow.refl _, fun _ _ h => h, hwf, fun _ _ h => .inl h⟩
/-- A run of Am. -/
theorem AGo.run (pr : PrOK P tab) {n : Nat} {m : AM} {outs : List (AV × AH)} (h : Am.run tab n m = .ok outs) : AGo P m fun v h' => (v, h') ∈ outs := by
  intro D E K base frC csC w hR
  exact (run_sound pr.ok pr.ext (fun sub hsub => draw_sound pr.ok hsub pr.ext pr.mix) n).1 m outs h D E K base frC csC w hR
end
end Go.Sy

namespace Go.Sy
open Go.Am Go.RowKit
universe u v

/-! The world's own rows, as blocks that are only read. -/
def absV (n : Nat) : Value → AV
  | .bool b => .bool b
  | .int k z => .int k z
  | .string s => .str s.data.toList
  | .pointer none => .nilp
  | .slice none 0 0 => .nils
  | .slice (some ⟨b, off, none⟩) len cap => if b < n then .sl b off len (.lit cap) else .raw (.slice (some ⟨b, off, none⟩) len cap)
  | .map none => .nilm
  | .nilFunc => .nilf
  | v => .raw v
def absA (n : Nat) : Value → AV
  | .agg cs => .agg (cs.toList.map (absV n))
  | v => absV n v
theorem conc_absV {n : Nat} {E : Env} (hE : ∀ i, i < n → E.blk i = i) (v : Value) : conc E (absV n v) = v := by
  unfold absV
  split <;> try (simp [conc]; done)
  split
  · rename_i b off len cap hb
    simp [conc, hE _ hb, Cap.val]
  · simp [conc]
theorem concL_absV {n : Nat} {E : Env} (hE : ∀ i, i < n → E.blk i = i) (l : List Value) : concL E (l.map (absV n)) = l := by
  induction l with
  | nil => rfl
  | cons v l ih => simp [conc_absV hE, ih]
theorem conc_absA {n : Nat} {E : Env} (hE : ∀ i, i < n → E.blk i = i) (v : Value) : conc E (absA n v) = v := by
  unfold absA
  split
  · simp [conc, concL_absV hE]
  · exact conc_absV hE _
theorem concL_absA {n : Nat} {E : Env} (hE : ∀ i, i < n → E.blk i = i) (l : List Value) : concL E (l.map (absA n)) = l := by
  induction l with
  | nil => rfl
  | cons v l ih => simp [conc_absA hE, ih]

def rowO (tab : Tab) (w : World) (b : Nat) : Option AO :=
  match w.heap[b]? with
  | some (.cells arr e _) => some (.cells (arr.toList.map (absV w.heap.size)) e ((tab.siz.get e).getD 1) false .ro)
  | _ => none
def rowH (tab : Tab) (w : World) : AH := ofFn w.heap.size (rowO tab w)
theorem rowO_some {tab : Tab} {w : World} {b : Nat} {o : AO} (h : rowO tab w b = some o) : ∃ arr e fz, w.heap[b]? = some (.cells arr e fz) ∧ o = .cells (arr.toList.map (absV w.heap.size)) e ((tab.siz.get e).getD 1) false .ro := by
  unfold rowO at h
  split at h
  · rename_i arr e fz hb
    cases h
    exact ⟨arr, e, fz, hb, rfl⟩
  · cases h
theorem rowH_get {tab : Tab} {w : World} {b : Nat} : (rowH tab w).get b = rowO tab w b := by
  unfold rowH
  rw [ofFn_get]
  split
  · rfl
  · rename_i hb
    unfold rowO
    rw [Array.getElem?_eq_none (by omega)]
theorem rowH_ok (tab : Tab) (w : World) {E : Env} (hE : ∀ i, i < w.heap.size → E.blk i = i) : HOK E (rowH tab w) (KS.old w.heap.size) w := by
  have hro : ∀ i o, (rowH tab w).get i = some o → o.ro ∧ i < w.heap.size := by
    intro i o hi
    rw [rowH_get] at hi
    obtain ⟨arr, e, fz, hb, rfl⟩ := rowO_some hi
    exact ⟨trivial, (Array.getElem?_eq_some_iff.1 hb).1⟩
  refine ⟨fun i o hi => ?_, fun i o hi hr => absurd (hro i o hi).1 hr, fun i j oi oj hi hj hr => absurd (hro i oi hi).1 hr, fun i o hi => (hro i o hi).2, fun b hb => hb, fun i o hi _ => ?_, fun b hb => hb⟩
  · rw [rowH_get] at hi
    obtain ⟨arr, e, fz, hb, rfl⟩ := rowO_some hi
    have hlt := (Array.getElem?_eq_some_iff.1 hb).1
    refine ⟨_, by rw [hE i hlt]; exact hb, arr, fz, rfl, ⟨[], by simp [concL_absV hE]⟩, by simp, trivial⟩
  · show E.blk i < w.heap.size
    rw [hE i (hro i o hi).2]
    exact (hro i o hi).2

/-- A list that lies in the world. -/
theorem rows_lst {tab : Tab} {w : World} {X : Type} {L : List X} {enc : X → List SV} {b off len cap : Nat} {arr : Array Value} {e : TypeId} {fz : Nat × Nat} {sz : Nat} (hb : w.heap[b]? = some (.cells arr e fz))
    (hz : tab.siz.get e = some sz) (h0 : 0 < sz) (hn : ∀ x ∈ L, (enc x).length = sz) (hl : off + L.length * sz ≤ arr.size) (hlen : len = L.length) (hcap : len ≤ cap)
    (hc : ∀ (i : Nat) x (j : Nat) v, L[i]? = some x → (enc x)[j]? = some v → ∃ u, arr[off + i * sz + j]? = some u ∧ SimP (rowH tab w).get v (absV w.heap.size u)) :
    SimP (rowH tab w).get (.lst X L enc) (absV w.heap.size (.slice (some ⟨b, off, none⟩) len cap)) := by
  have hlt := (Array.getElem?_eq_some_iff.1 hb).1
  have hg : (rowH tab w).get b = some (.cells (arr.toList.map (absV w.heap.size)) e sz false .ro) := by
    rw [rowH_get]
    unfold rowO
    rw [hb]
    simp only
    rw [hz]
    rfl
  have he : absV w.heap.size (.slice (some ⟨b, off, none⟩) len cap) = .sl b off L.length (.lit cap) := by
    simp [absV, hlt, hlen]
  rw [he]
  subst hlen
  refine .lst b off (.lit cap) _ e sz false .ro (fun i j => absV w.heap.size (arr[off + i * sz + j]?.getD (.bool false))) hg h0 (by simpa using hl) (fun i x hx => hn x (List.mem_of_getElem? hx)) hcap ?_ ?_
  · intro i x j v hx hv
    obtain ⟨u, hu, _⟩ := hc i x j v hx hv
    simp [hu]
  · intro i x j v hx hv
    obtain ⟨u, hu, hs⟩ := hc i x j v hx hv
    simp only [hu, Option.getD_some]
    exact hs

section
variable {P : Program} {tab : Tab} {cfg : Cfg}
/-- A law whose arguments may lie in the world. -/
theorem law_of_rows (pr : PrOK P tab) (htab : cfg.tab = tab) (hcon : ∀ g C, cfg.con g = some C → ConOK P tab g C) {n : Nat} {f : FuncId} {fn : Func} {svs : List SV} {args : List Value} {w : World} (hfn : tab.fns.get f = some fn)
    (h : ask cfg n f svs isT) (hs : SimL ⟨fun _ => none, (rowH tab w).get⟩ svs (args.map (absA w.heap.size))) :
    Calls P f args.toArray w (fun e w' => e = .returned (.bool true) ∧ Below w.heap.size w w') := by
  unfold ask at h
  rw [htab, hfn] at h
  simp only at h
  cases hb : fn.body with
  | none => rw [hb] at h; exact h.elim
  | some body =>
  rw [hb] at h
  simp only at h
  have hdom : ∀ i o, (rowH tab w).get i = some o → i < (rowH tab w).next := fun i o hi => (rowH_ok tab w (E := ⟨fun i => i, fun _ => 0⟩) (fun _ _ => rfl)).dom i o hi
  have hgo := wp_ok pr htab hcon n f fn body svs ⟨0, []⟩ (rowH tab w) ⟨fun _ => none, (rowH tab w).get⟩ (args.map (absA w.heap.size)) _ hfn hb h
    ⟨fun p o hp => (by simp [SH.get, look] at hp), fun p q o o' I J hp => (by simp [SH.get, look] at hp), fun i o hi => hi, fun p o I hp => (by simp [SH.get, look] at hp), fun p I hp => (by cases hp), hdom⟩ hs
  intro cs
  have hP := pr.ok.fns f fn hfn
  let E : Env := ⟨fun i => i, fun _ => 0⟩
  let D : Nat → Prop := fun i => i < w.heap.size
  have hag : ∀ E', Agree D E E' → ∀ i, i < w.heap.size → E'.blk i = i := fun E' he i hi => (he i hi).1
  have hR : Rel D E (KS.old w.heap.size) { fr := AFrame.enter fn f body (args.map (absA w.heap.size)) .normal, cs := [], h := rowH tab w } cs (Frame.enter P f args.toArray .normal) cs w := by
    refine ⟨fun E' he => ⟨rowH_ok tab w (hag E' he), ?_, rfl⟩, fun i h => h, enter_wf _ _ _ _ _, fun f hf => by cases hf⟩
    rw [← enter_conc hP hb, concL_absA (hag E' he)]
  obtain ⟨v, h', ⟨sv, s', C', hQ, hsv, _⟩, fr', w', v', E', D', s1, s2, s3, s4, s5, s6, s7, s8, s9, s10⟩ := hgo D E _ cs _ cs w hR
  obtain ⟨_, g2⟩ := s4 E' (Agree.refl _ _)
  have hv : v = .bool true := by
    unfold isT at hQ
    split at hQ
    · rw [hQ] at hsv; exact bool_ok hsv
    · exact hQ.elim
  subst hv
  subst g2
  exact ⟨.returned (.bool true), w', fr', ⟨rfl, s8.os, s8.tape, s8.output, s8.size, s8.block⟩, s1, s2, s3⟩
end
end Go.Sy

namespace Go.Sy
open Go.Am Go.RowKit
universe u v

/-! For those who read a condition. -/
theorem br_iff {b : Bool} {p q : Prop} : br b p q ↔ (b = true → p) ∧ (b = false → q) := by
  cases b <;> simp [br]
theorem ck_iff {b : Bool} {p : Prop} : ck b p ↔ b = true ∧ p := by
  cases b <;> simp [ck]
theorem so_iff {α : Type u} {x : Option α} {k : α → Prop} : so x k ↔ ∃ a, x = some a ∧ k a := by
  cases x <;> simp [so]
theorem nn_eq (n : Int) : nn n = decide (0 ≤ n) := by
  rw [Bool.eq_iff_iff]
  cases n with
  | ofNat a => simp only [nn, decide_eq_true_eq, true_iff]; exact Int.natCast_nonneg a
  | negSucc a => simp only [nn, decide_eq_true_eq, Bool.false_eq_true, false_iff]; omega
theorem inR64 (n : Int) : inR .i64 n = true ↔ -9223372036854775808 ≤ n ∧ n ≤ 9223372036854775807 := by
  simp only [inR, loI, hiI, leI_eq, Bool.and_eq_true, decide_eq_true_eq]
  constructor <;> rintro ⟨h1, h2⟩ <;> constructor <;> (try simp only [Int.ofNat_eq_natCast] at *) <;> omega

/-- A table of contracts: one ahead of the others. -/
theorem con_step {P : Program} {tab : Tab} {con : FuncId → Option Con} {k : FuncId} {c : Con} (hc : ConOK P tab k c) (h : ∀ g C, con g = some C → ConOK P tab g C) : ∀ g C, (bif Nat.beq g k then some c else con g) = some C → ConOK P tab g C := by
  intro g C hg
  cases hb : Nat.beq g k
  · rw [hb] at hg; exact h g C hg
  · rw [hb] at hg
    cases hg
    rw [Nat.eq_of_beq_eq_true hb]
    exact hc
theorem con_none {P : Program} {tab : Tab} : ∀ g C, (none : Option Con) = some C → ConOK P tab g C := fun _ _ h => by cases h
end Go.Sy

set_option maxRecDepth 100000
namespace Go.Proofs
open Go.Am
noncomputable def Try.aUnd : T TypeDesc := (.n (some Try.t0.desc) (.n (some Try.t1.desc) (.n (some Try.t3.desc) (.n (some Try.t7.desc) (.n (some Try.t15.desc) (.n (some Try.t30.desc) (.n (some Try.t63.desc) (.n (some Try.t127.desc) .e .e) .e) (.n (some Try.t95.desc) .e .e)) (.n (some Try.t47.desc) (.n (some Try.t79.desc) .e .e) (.n (some Try.t111.desc) .e .e))) (.n (some Try.t22.desc) (.n (some Try.t39.desc) (.n (some Try.t71.desc) .e .e) (.n (some Try.t103.desc) .e .e)) (.n (some Try.t55.desc) (.n (some Try.t87.desc) .e .e) (.n (some Try.t118.desc) .e .e)))) (.n (some Try.t9.desc) (.n (some Try.t18.desc) (.n (some Try.t3.desc) (.n (some Try.t66.desc) (.n (some Try.t130.desc) .e .e) .e) (.n (some Try.t99.desc) .e .e)) (.n (some Try.t51.desc) (.n (some Try.t83.desc) .e .e) (.n (some Try.t115.desc) .e .e))) (.n (some Try.t26.desc) (.n (some Try.t43.desc) (.n (some Try.t75.desc) .e .e) (.n (some Try.t107.desc) .e .e)) (.n (some Try.t58.desc) (.n (some Try.t91.desc) .e .e) (.n (some Try.t123.desc) .e .e))))) (.n (some Try.t5.desc) (.n (some Try.t9.desc) (.n (some Try.t17.desc) (.n (some Try.t33.desc) (.n (some Try.t65.desc) (.n (some Try.t21.desc) .e .e) .e) (.n (some Try.t90.desc) .e .e)) (.n (some Try.t49.desc) (.n (some Try.t81.desc) .e .e) (.n (some Try.t113.desc) .e .e))) (.n (some Try.t24.desc) (.n (some Try.t41.desc) (.n (some Try.t73.desc) .e .e) (.n (some Try.t105.desc) .e .e)) (.n (some Try.t57.desc) (.n (some Try.t89.desc) .e .e) (.n (some Try.t121.desc) .e .e)))) (.n (some Try.t13.desc) (.n (some Try.t21.desc) (.n (some Try.t37.desc) (.n (some Try.t69.desc) .e .e) (.n (some Try.t101.desc) .e .e)) (.n (some Try.t53.desc) (.n (some Try.t85.desc) .e .e) (.n (some Try.t117.desc) .e .e))) (.n (some Try.t29.desc) (.n (some Try.t45.desc) (.n (some Try.t77.desc) .e .e) (.n (some Try.t109.desc) .e .e)) (.n (some Try.t61.desc) (.n (some Try.t93.desc) .e .e) (.n (some Try.t5.desc) .e .e)))))) (.n (some Try.t2.desc) (.n (some Try.t4.desc) (.n (some Try.t7.desc) (.n (some Try.t16.desc) (.n (some Try.t32.desc) (.n (some Try.t64.desc) (.n (some Try.t21.desc) .e .e) .e) (.n (some Try.t96.desc) .e .e)) (.n (some Try.t48.desc) (.n (some Try.t3.desc) .e .e) (.n (some Try.t112.desc) .e .e))) (.n (some Try.t24.desc) (.n (some Try.t40.desc) (.n (some Try.t72.desc) .e .e) (.n (some Try.t104.desc) .e .e)) (.n (some Try.t56.desc) (.n (some Try.t88.desc) .e .e) (.n (some Try.t120.desc) .e .e)))) (.n (some Try.t12.desc) (.n (some Try.t20.desc) (.n (some Try.t36.desc) (.n (some Try.t68.desc) (.n (some Try.t132.desc) .e .e) .e) (.n (some Try.t100.desc) .e .e)) (.n (some Try.t52.desc) (.n (some Try.t84.desc) .e .e) (.n (some Try.t116.desc) .e .e))) (.n (some Try.t28.desc) (.n (some Try.t44.desc) (.n (some Try.t76.desc) .e .e) (.n (some Try.t108.desc) .e .e)) (.n (some Try.t60.desc) (.n (some Try.t92.desc) .e .e) (.n (some Try.t5.desc) .e .e))))) (.n (some Try.t5.desc) (.n (some Try.t9.desc) (.n (some Try.t18.desc) (.n (some Try.t34.desc) (.n (some Try.t66.desc) (.n (some Try.t130.desc) .e .e) .e) (.n (some Try.t98.desc) .e .e)) (.n (some Try.t50.desc) (.n (some Try.t82.desc) .e .e) (.n (some Try.t114.desc) .e .e))) (.n (some Try.t26.desc) (.n (some Try.t42.desc) (.n (some Try.t74.desc) .e .e) (.n (some Try.t106.desc) .e .e)) (.n (some Try.t58.desc) (.n (some Try.t90.desc) .e .e) (.n (some Try.t121.desc) .e .e)))) (.n (some Try.t13.desc) (.n (some Try.t22.desc) (.n (some Try.t38.desc) (.n (some Try.t70.desc) .e .e) (.n (some Try.t102.desc) .e .e)) (.n (some Try.t54.desc) (.n (some Try.t86.desc) .e .e) (.n (some Try.t118.desc) .e .e))) (.n (some Try.t30.desc) (.n (some Try.t46.desc) (.n (some Try.t78.desc) .e .e) (.n (some Try.t110.desc) .e .e)) (.n (some Try.t62.desc) (.n (some Try.t94.desc) .e .e) (.n (some Try.t126.desc) .e .e)))))))
noncomputable def Try.aSiz : T Nat := (.n (some 1) (.n (some 1) (.n (some 1) (.n (some 4) (.n (some 1) (.n (some 4) (.n (some 1) (.n (some 1) .e .e) .e) (.n (some 1) .e .e)) (.n (some 1) (.n (some 1) .e .e) (.n (some 1) .e .e))) (.n (some 3) (.n (some 1) (.n (some 1) .e .e) (.n (some 1) .e .e)) (.n (some 1) (.n (some 1) .e .e) (.n (some 4) .e .e)))) (.n (some 1) (.n (some 1) (.n (some 1) (.n (some 3) (.n (some 11) .e .e) .e) (.n (some 1) .e .e)) (.n (some 1) (.n (some 1) .e .e) (.n (some 1) .e .e))) (.n (some 11) (.n (some 1) (.n (some 1) .e .e) (.n (some 1) .e .e)) (.n (some 1) (.n (some 1) .e .e) (.n (some 1) .e .e))))) (.n (some 1) (.n (some 1) (.n (some 1) (.n (some 1) (.n (some 1) (.n (some 1) .e .e) .e) (.n (some 1) .e .e)) (.n (some 1) (.n (some 1) .e .e) (.n (some 1) .e .e))) (.n (some 8) (.n (some 1) (.n (some 1) .e .e) (.n (some 1) .e .e)) (.n (some 1) (.n (some 1) .e .e) (.n (some 0) .e .e)))) (.n (some 2) (.n (some 1) (.n (some 1) (.n (some 1) .e .e) (.n (some 1) .e .e)) (.n (some 1) (.n (some 1) .e .e) (.n (some 1) .e .e))) (.n (some 1) (.n (some 1) (.n (some 1) .e .e) (.n (some 1) .e .e)) (.n (some 1) (.n (some 1) .e .e) (.n (some 1) .e .e)))))) (.n (some 1) (.n (some 1) (.n (some 4) (.n (some 1) (.n (some 1) (.n (some 1) (.n (some 1) .e .e) .e) (.n (some 1) .e .e)) (.n (some 1) (.n (some 1) .e .e) (.n (some 1) .e .e))) (.n (some 8) (.n (some 1) (.n (some 1) .e .e) (.n (some 1) .e .e)) (.n (some 1) (.n (some 1) .e .e) (.n (some 0) .e .e)))) (.n (some 1) (.n (some 1) (.n (some 1) (.n (some 1) (.n (some 1) .e .e) .e) (.n (some 1) .e .e)) (.n (some 1) (.n (some 1) .e .e) (.n (some 1) .e .e))) (.n (some 1) (.n (some 1) (.n (some 1) .e .e) (.n (some 1) .e .e)) (.n (some 1) (.n (some 1) .e .e) (.n (some 1) .e .e))))) (.n (some 1) (.n (some 1) (.n (some 1) (.n (some 1) (.n (some 3) (.n (some 11) .e .e) .e) (.n (some 1) .e .e)) (.n (some 1) (.n (some 1) .e .e) (.n (some 1) .e .e))) (.n (some 11) (.n (some 1) (.n (some 1) .e .e) (.n (some 1) .e .e)) (.n (some 1) (.n (some 1) .e .e) (.n (some 0) .e .e)))) (.n (some 2) (.n (some 3) (.n (some 1) (.n (some 1) .e .e) (.n (some 1) .e .e)) (.n (some 1) (.n (some 1) .e .e) (.n (some 4) .e .e))) (.n (some 4) (.n (some 1) (.n (some 1) .e .e) (.n (some 1) .e .e)) (.n (some 1) (.n (some 1) .e .e) (.n (some 1) .e .e)))))))
noncomputable def Try.aByt : T Nat := (.n (some 0) (.n (some 8) (.n (some 8) (.n (some 24) (.n (some 8) (.n (some 48) (.n (some 8) (.n (some 8) .e .e) .e) (.n (some 8) .e .e)) (.n (some 8) (.n (some 8) .e .e) (.n (some 8) .e .e))) (.n (some 48) (.n (some 8) (.n (some 8) .e .e) (.n (some 0) .e .e)) (.n (some 8) (.n (some 8) .e .e) (.n (some 40) .e .e)))) (.n (some 16) (.n (some 8) (.n (some 8) (.n (some 24) (.n (some 48) .e .e) .e) (.n (some 8) .e .e)) (.n (some 24) (.n (some 8) .e .e) (.n (some 24) .e .e))) (.n (some 96) (.n (some 8) (.n (some 8) .e .e) (.n (some 8) .e .e)) (.n (some 8) (.n (some 8) .e .e) (.n (some 8) .e .e))))) (.n (some 1) (.n (some 16) (.n (some 8) (.n (some 8) (.n (some 8) (.n (some 4) .e .e) .e) (.n (some 8) .e .e)) (.n (some 8) (.n (some 0) .e .e) (.n (some 8) .e .e))) (.n (some 48) (.n (some 8) (.n (some 8) .e .e) (.n (some 8) .e .e)) (.n (some 8) (.n (some 8) .e .e) (.n (some 0) .e .e)))) (.n (some 24) (.n (some 4) (.n (some 8) (.n (some 8) .e .e) (.n (some 8) .e .e)) (.n (some 8) (.n (some 0) .e .e) (.n (some 8) .e .e))) (.n (some 24) (.n (some 8) (.n (some 8) .e .e) (.n (some 8) .e .e)) (.n (some 8) (.n (some 8) .e .e) (.n (some 1) .e .e)))))) (.n (some 8) (.n (some 1) (.n (some 24) (.n (some 8) (.n (some 24) (.n (some 8) (.n (some 4) .e .e) .e) (.n (some 8) .e .e)) (.n (some 8) (.n (some 8) .e .e) (.n (some 8) .e .e))) (.n (some 48) (.n (some 8) (.n (some 8) .e .e) (.n (some 8) .e .e)) (.n (some 8) (.n (some 4) .e .e) (.n (some 0) .e .e)))) (.n (some 8) (.n (some 16) (.n (some 0) (.n (some 0) (.n (some 8) .e .e) .e) (.n (some 8) .e .e)) (.n (some 8) (.n (some 8) .e .e) (.n (some 8) .e .e))) (.n (some 8) (.n (some 8) (.n (some 8) .e .e) (.n (some 0) .e .e)) (.n (some 8) (.n (some 8) .e .e) (.n (some 1) .e .e))))) (.n (some 1) (.n (some 16) (.n (some 8) (.n (some 8) (.n (some 24) (.n (some 48) .e .e) .e) (.n (some 8) .e .e)) (.n (some 8) (.n (some 8) .e .e) (.n (some 8) .e .e))) (.n (some 96) (.n (some 8) (.n (some 8) .e .e) (.n (some 8) .e .e)) (.n (some 8) (.n (some 8) .e .e) (.n (some 0) .e .e)))) (.n (some 24) (.n (some 48) (.n (some 8) (.n (some 8) .e .e) (.n (some 8) .e .e)) (.n (some 8) (.n (some 8) .e .e) (.n (some 40) .e .e))) (.n (some 48) (.n (some 8) (.n (some 8) .e .e) (.n (some 8) .e .e)) (.n (some 8) (.n (some 8) .e .e) (.n (some 8) .e .e)))))))
noncomputable def Try.aZer : T AV := (.n (some (.tup [])) (.n (some (.nilf)) (.n (some (.int .i64 0)) (.n (some (.agg [.int .i64 0, .int .i64 0, .bool false, .int .u8 0])) (.n (some (.nilp)) (.n (some (.agg [.int .i64 0, .int .i64 0, .int .i64 0, .nils])) (.n (some (.nilf)) (.n (some (.nilp)) .e .e) .e) (.n (some (.nilf)) .e .e)) (.n (some (.nilf)) (.n (some (.nilf)) .e .e) (.n (some (.nilf)) .e .e))) (.n (some (.agg [.str [], .str [], .str []])) (.n (some (.nilf)) (.n (some (.nilf)) .e .e) (.n (some (.tup [.str [], .str [], .bool false])) .e .e)) (.n (some (.nilf)) (.n (some (.nilf)) .e .e) (.n (some (.agg [.nilp, .nilp, .nilp, .str []])) .e .e)))) (.n (some (.str [])) (.n (some (.agg [.nilp])) (.n (some (.int .i64 0)) (.n (some (.agg [.str [], .bool false, .bool false])) (.n (some (.agg [.int .u64 0, .int .u64 0, .int .u32 0, .int .u8 0, .int .u8 0, .int .u8 0, .int .u8 0, .nilf, .nilp, .int .i32 0, .int .i32 0])) .e .e) .e) (.n (some (.nilf)) .e .e)) (.n (some (.nils)) (.n (some (.nilf)) .e .e) (.n (some (.nils)) .e .e))) (.n (some (.agg [.str [], .str [], .str [], .str [], .bool false, .bool false, .bool false, .bool false, .int .i64 0, .int .i64 0, .int .i64 0])) (.n (some (.nilf)) (.n (some (.nilf)) .e .e) (.n (some (.nilp)) .e .e)) (.n (some (.nilf)) (.n (some (.nilf)) .e .e) (.n (some (.nilf)) .e .e))))) (.n (some (.int .u8 0)) (.n (some (.str [])) (.n (some (.nilp)) (.n (some (.nilf)) (.n (some (.nilf)) (.n (some (.int .i32 0)) .e .e) .e) (.n (some (.int .u64 0)) .e .e)) (.n (some (.nilf)) (.n (some (.tup [.int .i64 0, .int .i64 0])) .e .e) (.n (some (.nilf)) .e .e))) (.n (some (.agg [.str [], .bool false, .bool false, .bool false, .bool false, .int .i64 0, .int .i64 0, .int .i64 0])) (.n (some (.nilf)) (.n (some (.nilf)) .e .e) (.n (some (.nilf)) .e .e)) (.n (some (.nilf)) (.n (some (.nilf)) .e .e) (.n (some (.agg [])) .e .e)))) (.n (some (.agg [.str [], .int .u64 0])) (.n (some (.int .i32 0)) (.n (some (.nilf)) (.n (some (.nilf)) .e .e) (.n (some (.nilp)) .e .e)) (.n (some (.nilf)) (.n (some (.tup [.int .i64 0, .bool false])) .e .e) (.n (some (.nilf)) .e .e))) (.n (some (.nils)) (.n (some (.nilf)) (.n (some (.nilf)) .e .e) (.n (some (.nilf)) .e .e)) (.n (some (.nilf)) (.n (some (.nilf)) .e .e) (.n (some (.int .u8 0)) .e .e)))))) (.n (some (.int .i64 0)) (.n (some (.bool false)) (.n (some (.agg [.int .i64 0, .int .i64 0, .bool false, .int .u8 0])) (.n (some (.nilp)) (.n (some (.nils)) (.n (some (.nilf)) (.n (some (.int .i32 0)) .e .e) .e) (.n (some (.nilf)) .e .e)) (.n (some (.nilf)) (.n (some (.int .i64 0)) .e .e) (.n (some (.nilf)) .e .e))) (.n (some (.agg [.str [], .bool false, .bool false, .bool false, .bool false, .int .i64 0, .int .i64 0, .int .i64 0])) (.n (some (.nilf)) (.n (some (.nilf)) .e .e) (.n (some (.nilf)) .e .e)) (.n (some (.nilm)) (.n (some (.int .u32 0)) .e .e) (.n (some (.agg [])) .e .e)))) (.n (some (.int .u64 0)) (.n (some (.nili)) (.n (some (.tup [.nils, .int .i64 0])) (.n none (.n (some (.nilp)) .e .e) .e) (.n (some (.nilf)) .e .e)) (.n (some (.nilf)) (.n (some (.nilf)) .e .e) (.n (some (.nilf)) .e .e))) (.n (some (.nilf)) (.n (some (.nilf)) (.n (some (.nilf)) .e .e) (.n (some (.tup [.int .i64 0, .int .i64 0])) .e .e)) (.n (some (.nilf)) (.n (some (.nilf)) .e .e) (.n (some (.int .u8 0)) .e .e))))) (.n (some (.int .u8 0)) (.n (some (.str [])) (.n (some (.agg [.nilp])) (.n (some (.nilf)) (.n (some (.agg [.str [], .bool false, .bool false])) (.n (some (.agg [.int .u64 0, .int .u64 0, .int .u32 0, .int .u8 0, .int .u8 0, .int .u8 0, .int .u8 0, .nilf, .nilp, .int .i32 0, .int .i32 0])) .e .e) .e) (.n (some (.nilf)) .e .e)) (.n (some (.nilf)) (.n (some (.nilf)) .e .e) (.n (some (.nilf)) .e .e))) (.n (some (.agg [.str [], .str [], .str [], .str [], .bool false, .bool false, .bool false, .bool false, .int .i64 0, .int .i64 0, .int .i64 0])) (.n (some (.nilf)) (.n (some (.int .u64 0)) .e .e) (.n (some (.nilf)) .e .e)) (.n (some (.nilf)) (.n (some (.int .u64 0)) .e .e) (.n (some (.agg [])) .e .e)))) (.n (some (.agg [.str [], .int .u64 0])) (.n (some (.agg [.str [], .str [], .str []])) (.n (some (.nilf)) (.n (some (.nilf)) .e .e) (.n (some (.nilf)) .e .e)) (.n (some (.nilf)) (.n (some (.nilf)) .e .e) (.n (some (.agg [.nilp, .nilp, .nilp, .str []])) .e .e))) (.n (some (.agg [.int .i64 0, .int .i64 0, .int .i64 0, .nils])) (.n (some (.nilf)) (.n (some (.nilf)) .e .e) (.n (some (.nilf)) .e .e)) (.n (some (.nilf)) (.n (some (.nilf)) .e .e) (.n (some (.nilf)) .e .e)))))))
noncomputable def Try.aAgg : T Bool := (.n (some false) (.n (some false) (.n (some false) (.n (some true) (.n (some false) (.n (some true) (.n (some false) (.n (some false) .e .e) .e) (.n (some false) .e .e)) (.n (some false) (.n (some false) .e .e) (.n (some false) .e .e))) (.n (some true) (.n (some false) (.n (some false) .e .e) (.n (some false) .e .e)) (.n (some false) (.n (some false) .e .e) (.n (some true) .e .e)))) (.n (some false) (.n (some true) (.n (some false) (.n (some true) (.n (some true) .e .e) .e) (.n (some false) .e .e)) (.n (some false) (.n (some false) .e .e) (.n (some false) .e .e))) (.n (some true) (.n (some false) (.n (some false) .e .e) (.n (some false) .e .e)) (.n (some false) (.n (some false) .e .e) (.n (some false) .e .e))))) (.n (some false) (.n (some false) (.n (some false) (.n (some false) (.n (some false) (.n (some false) .e .e) .e) (.n (some false) .e .e)) (.n (some false) (.n (some false) .e .e) (.n (some false) .e .e))) (.n (some true) (.n (some false) (.n (some false) .e .e) (.n (some false) .e .e)) (.n (some false) (.n (some false) .e .e) (.n (some true) .e .e)))) (.n (some true) (.n (some false) (.n (some false) (.n (some false) .e .e) (.n (some false) .e .e)) (.n (some false) (.n (some false) .e .e) (.n (some false) .e .e))) (.n (some false) (.n (some false) (.n (some false) .e .e) (.n (some false) .e .e)) (.n (some false) (.n (some false) .e .e) (.n (some false) .e .e)))))) (.n (some false) (.n (some false) (.n (some true) (.n (some false) (.n (some false) (.n (some false) (.n (some false) .e .e) .e) (.n (some false) .e .e)) (.n (some false) (.n (some false) .e .e) (.n (some false) .e .e))) (.n (some true) (.n (some false) (.n (some false) .e .e) (.n (some false) .e .e)) (.n (some false) (.n (some false) .e .e) (.n (some true) .e .e)))) (.n (some false) (.n (some false) (.n (some false) (.n (some false) (.n (some false) .e .e) .e) (.n (some false) .e .e)) (.n (some false) (.n (some false) .e .e) (.n (some false) .e .e))) (.n (some false) (.n (some false) (.n (some false) .e .e) (.n (some false) .e .e)) (.n (some false) (.n (some false) .e .e) (.n (some false) .e .e))))) (.n (some false) (.n (some false) (.n (some true) (.n (some false) (.n (some true) (.n (some true) .e .e) .e) (.n (some false) .e .e)) (.n (some false) (.n (some false) .e .e) (.n (some false) .e .e))) (.n (some true) (.n (some false) (.n (some false) .e .e) (.n (some false) .e .e)) (.n (some false) (.n (some false) .e .e) (.n (some true) .e .e)))) (.n (some true) (.n (some true) (.n (some false) (.n (some false) .e .e) (.n (some false) .e .e)) (.n (some false) (.n (some false) .e .e) (.n (some true) .e .e))) (.n (some true) (.n (some false) (.n (some false) .e .e) (.n (some false) .e .e)) (.n (some false) (.n (some false) .e .e) (.n (some false) .e .e)))))))
noncomputable def Try.aHeld : T Bool := (.n (some false) (.n (some false) (.n (some false) (.n (some false) (.n (some false) (.n (some false) (.n (some false) (.n (some false) .e .e) .e) (.n (some false) .e .e)) (.n (some false) (.n (some false) .e .e) (.n (some false) .e .e))) (.n (some false) (.n (some false) (.n (some false) .e .e) (.n (some false) .e .e)) (.n (some false) (.n (some false) .e .e) (.n (some true) .e .e)))) (.n (some false) (.n (some true) (.n (some false) (.n (some false) (.n (some true) .e .e) .e) (.n (some false) .e .e)) (.n (some false) (.n (some false) .e .e) (.n (some false) .e .e))) (.n (some false) (.n (some false) (.n (some false) .e .e) (.n (some false) .e .e)) (.n (some false) (.n (some false) .e .e) (.n (some false) .e .e))))) (.n (some false) (.n (some false) (.n (some false) (.n (some false) (.n (some false) (.n (some false) .e .e) .e) (.n (some false) .e .e)) (.n (some false) (.n (some false) .e .e) (.n (some false) .e .e))) (.n (some false) (.n (some false) (.n (some false) .e .e) (.n (some false) .e .e)) (.n (some false) (.n (some false) .e .e) (.n (some true) .e .e)))) (.n (some true) (.n (some false) (.n (some false) (.n (some false) .e .e) (.n (some false) .e .e)) (.n (some false) (.n (some false) .e .e) (.n (some false) .e .e))) (.n (some false) (.n (some false) (.n (some false) .e .e) (.n (some false) .e .e)) (.n (some false) (.n (some false) .e .e) (.n (some false) .e .e)))))) (.n (some false) (.n (some false) (.n (some false) (.n (some false) (.n (some false) (.n (some false) (.n (some false) .e .e) .e) (.n (some false) .e .e)) (.n (some false) (.n (some false) .e .e) (.n (some false) .e .e))) (.n (some false) (.n (some false) (.n (some false) .e .e) (.n (some false) .e .e)) (.n (some false) (.n (some false) .e .e) (.n (some false) .e .e)))) (.n (some false) (.n (some false) (.n (some false) (.n (some false) (.n (some false) .e .e) .e) (.n (some false) .e .e)) (.n (some false) (.n (some false) .e .e) (.n (some false) .e .e))) (.n (some false) (.n (some false) (.n (some false) .e .e) (.n (some false) .e .e)) (.n (some false) (.n (some false) .e .e) (.n (some false) .e .e))))) (.n (some false) (.n (some false) (.n (some true) (.n (some false) (.n (some false) (.n (some true) .e .e) .e) (.n (some false) .e .e)) (.n (some false) (.n (some false) .e .e) (.n (some false) .e .e))) (.n (some false) (.n (some false) (.n (some false) .e .e) (.n (some false) .e .e)) (.n (some false) (.n (some false) .e .e) (.n (some true) .e .e)))) (.n (some true) (.n (some false) (.n (some false) (.n (some false) .e .e) (.n (some false) .e .e)) (.n (some false) (.n (some false) .e .e) (.n (some true) .e .e))) (.n (some false) (.n (some false) (.n (some false) .e .e) (.n (some false) .e .e)) (.n (some false) (.n (some false) .e .e) (.n (some false) .e .e)))))))
noncomputable def Try.aGrd : T Bool := (.n (some false) (.n (some false) (.n (some false) (.n (some false) (.n (some false) (.n (some false) (.n (some false) (.n (some false) .e .e) .e) (.n (some false) .e .e)) (.n (some false) (.n (some false) .e .e) (.n (some false) .e .e))) (.n (some false) (.n (some false) (.n (some false) .e .e) (.n (some false) .e .e)) (.n (some false) (.n (some false) .e .e) (.n (some false) .e .e)))) (.n (some false) (.n (some false) (.n (some false) (.n (some false) (.n (some false) .e .e) .e) (.n (some false) .e .e)) (.n (some false) (.n (some false) .e .e) (.n (some false) .e .e))) (.n (some false) (.n (some false) (.n (some false) .e .e) (.n (some false) .e .e)) (.n (some false) (.n (some false) .e .e) (.n (some false) .e .e))))) (.n (some false) (.n (some false) (.n (some false) (.n (some false) (.n (some false) (.n (some false) .e .e) .e) (.n (some false) .e .e)) (.n (some false) (.n (some false) .e .e) (.n (some false) .e .e))) (.n (some false) (.n (some false) (.n (some false) .e .e) (.n (some false) .e .e)) (.n (some false) (.n (some false) .e .e) (.n (some false) .e .e)))) (.n (some false) (.n (some false) (.n (some false) (.n (some false) .e .e) (.n (some false) .e .e)) (.n (some false) (.n (some false) .e .e) (.n (some false) .e .e))) (.n (some false) (.n (some false) (.n (some false) .e .e) (.n (some false) .e .e)) (.n (some false) (.n (some false) .e .e) (.n (some false) .e .e)))))) (.n (some false) (.n (some false) (.n (some false) (.n (some false) (.n (some false) (.n (some false) (.n (some false) .e .e) .e) (.n (some false) .e .e)) (.n (some false) (.n (some false) .e .e) (.n (some false) .e .e))) (.n (some false) (.n (some false) (.n (some false) .e .e) (.n (some false) .e .e)) (.n (some false) (.n (some false) .e .e) (.n (some false) .e .e)))) (.n (some false) (.n (some false) (.n (some false) (.n (some false) (.n (some false) .e .e) .e) (.n (some false) .e .e)) (.n (some false) (.n (some false) .e .e) (.n (some false) .e .e))) (.n (some false) (.n (some false) (.n (some false) .e .e) (.n (some false) .e .e)) (.n (some false) (.n (some false) .e .e) (.n (some false) .e .e))))) (.n (some false) (.n (some false) (.n (some false) (.n (some false) (.n (some false) (.n (some false) .e .e) .e) (.n (some false) .e .e)) (.n (some false) (.n (some false) .e .e) (.n (some false) .e .e))) (.n (some false) (.n (some false) (.n (some false) .e .e) (.n (some false) .e .e)) (.n (some false) (.n (some false) .e .e) (.n (some false) .e .e)))) (.n (some false) (.n (some false) (.n (some false) (.n (some false) .e .e) (.n (some false) .e .e)) (.n (some false) (.n (some false) .e .e) (.n (some false) .e .e))) (.n (some false) (.n (some false) (.n (some false) .e .e) (.n (some false) .e .e)) (.n (some false) (.n (some false) .e .e) (.n (some false) .e .e)))))))
noncomputable def Try.aFns : T Func := (.n (some Try.f0) (.n (some Try.f1) (.n (some Try.f3) (.n (some Try.f7) (.n (some Try.f15) (.n (some Try.f31) (.n (some Try.f63) .e .e) (.n (some Try.f95) .e .e)) (.n (some Try.f47) (.n (some Try.f79) .e .e) .e)) (.n (some Try.f23) (.n (some Try.f39) (.n (some Try.f71) .e .e) (.n (some Try.f103) .e .e)) (.n (some Try.f55) (.n (some Try.f87) .e .e) .e))) (.n (some Try.f11) (.n (some Try.f19) (.n (some Try.f35) (.n (some Try.f67) .e .e) (.n (some Try.f99) .e .e)) (.n (some Try.f51) (.n (some Try.f83) .e .e) .e)) (.n (some Try.f27) (.n (some Try.f43) (.n (some Try.f75) .e .e) (.n (some Try.f107) .e .e)) (.n (some Try.f59) (.n (some Try.f91) .e .e) .e)))) (.n (some Try.f5) (.n (some Try.f9) (.n (some Try.f17) (.n (some Try.f33) (.n (some Try.f65) .e .e) (.n (some Try.f97) .e .e)) (.n (some Try.f49) (.n (some Try.f81) .e .e) .e)) (.n (some Try.f25) (.n (some Try.f41) (.n (some Try.f73) .e .e) (.n (some Try.f105) .e .e)) (.n (some Try.f57) (.n (some Try.f89) .e .e) .e))) (.n (some Try.f13) (.n (some Try.f21) (.n (some Try.f37) (.n (some Try.f69) .e .e) (.n (some Try.f101) .e .e)) (.n (some Try.f53) (.n (some Try.f85) .e .e) .e)) (.n (some Try.f29) (.n (some Try.f45) (.n (some Try.f77) .e .e) .e) (.n (some Try.f61) (.n (some Try.f93) .e .e) .e))))) (.n (some Try.f2) (.n (some Try.f4) (.n (some Try.f8) (.n (some Try.f16) (.n (some Try.f32) (.n (some Try.f64) .e .e) (.n (some Try.f96) .e .e)) (.n (some Try.f48) (.n (some Try.f80) .e .e) .e)) (.n (some Try.f24) (.n (some Try.f40) (.n (some Try.f72) .e .e) (.n (some Try.f104) .e .e)) (.n (some Try.f56) (.n (some Try.f88) .e .e) .e))) (.n (some Try.f12) (.n (some Try.f20) (.n (some Try.f36) (.n (some Try.f68) .e .e) (.n (some Try.f100) .e .e)) (.n (some Try.f52) (.n (some Try.f84) .e .e) .e)) (.n (some Try.f28) (.n (some Try.f44) (.n (some Try.f76) .e .e) (.n (some Try.f108) .e .e)) (.n (some Try.f60) (.n (some Try.f92) .e .e) .e)))) (.n (some Try.f6) (.n (some Try.f10) (.n (some Try.f18) (.n (some Try.f34) (.n (some Try.f66) .e .e) (.n (some Try.f98) .e .e)) (.n (some Try.f50) (.n (some Try.f82) .e .e) .e)) (.n (some Try.f26) (.n (some Try.f42) (.n (some Try.f74) .e .e) (.n (some Try.f106) .e .e)) (.n (some Try.f58) (.n (some Try.f90) .e .e) .e))) (.n (some Try.f14) (.n (some Try.f22) (.n (some Try.f38) (.n (some Try.f70) .e .e) (.n (some Try.f102) .e .e)) (.n (some Try.f54) (.n (some Try.f86) .e .e) .e)) (.n (some Try.f30) (.n (some Try.f46) (.n (some Try.f78) .e .e) .e) (.n (some Try.f62) (.n (some Try.f94) .e .e) .e))))))
noncomputable def Try.aExt : T Nat := extOf [(58, 1)]
noncomputable def Try.tab : Tab := { und := Try.aUnd, siz := Try.aSiz, byt := Try.aByt, zer := Try.aZer, agg := Try.aAgg, cmp := .e, held := Try.aHeld, grd := Try.aGrd, fns := Try.aFns, ext := Try.aExt, merge := fun _ => false }
end Go.Proofs

namespace Go.Proofs
open Go Go.Am
set_option maxRecDepth 100000
theorem Try.h1 : Try.tab.und.reval Try.prog.underlying = Try.tab.und := by kernel_rfl
theorem Try.h2 : Try.tab.siz.reval (fun t => (Try.prog.info? t).map (·.size)) = Try.tab.siz := by kernel_rfl
theorem Try.h3 : Try.tab.byt.reval (fun t => (Try.prog.info? t).map (·.bytes)) = Try.tab.byt := by kernel_rfl
theorem Try.h4 : Try.tab.zer.reval (fun t => ((Try.prog.info? t).bind (·.zero)).map ofConst) = Try.tab.zer := by kernel_rfl
theorem Try.h5 : Try.tab.agg.reval (fun t => (Try.prog.underlying t).map aggOf) = Try.tab.agg := by kernel_rfl
theorem Try.h6 : Try.tab.held.reval (fun t => some (Try.prog.stoodInHeld t)) = Try.tab.held := by kernel_rfl
theorem Try.h7 : Try.tab.grd.reval (fun t => some (Try.prog.eqGuardType Try.prog.depth t)) = Try.tab.grd := by kernel_rfl
theorem Try.h8 : Try.tab.fns.reval (fun f => Try.prog.funcs[f]?) = Try.tab.fns := by kernel_rfl
theorem Try.h9 : Try.tab.fns.all (fun fn => !(fn.name == "runtime.NumGoroutine")) = true := by kernel_rfl
theorem Try.tabOk : TabOK Try.prog Try.tab := TabOK.of Try.h1 Try.h2 Try.h3 Try.h4 Try.h5 Try.h6 Try.h7 Try.h8 Try.h9
end Go.Proofs

namespace Go.Proofs
open Go Go.Am Go.RowKit
set_option maxRecDepth 100000
theorem Try.fn58 : Try.tab.fns.get 58 = some Try.f58 := by kernel_rfl
theorem Try.n58 : Extern.findNext Try.f58 = none := by kernel_rfl
theorem Try.e58 : Extern.find Try.f58 = some (extFn 1 Try.f58) := by kernel_rfl
theorem Try.extOk : ExtTab Try.prog Try.tab := ExtTab.list [(58, 1)] rfl (by
  intro x hx
  simp only [List.mem_cons, List.not_mem_nil, or_false] at hx
  subst hx
  exact ⟨_, Try.fn58, Try.n58, Try.e58⟩)
theorem Try.mix : Try.prog.follows .mixedOrders = true := by kernel_rfl
theorem Try.prOk : Go.Sy.PrOK Try.prog Try.tab := ⟨Try.tabOk, ext_ok Try.tabOk Try.extOk, Try.mix⟩
end Go.Proofs

namespace Go.Proofs
open Go Go.Am Go.Sy
structure CItem where
  name : List UInt8
  domain : List UInt8
  path : List UInt8
  value : List UInt8
  hostOnly : Bool
  secure : Bool
  httpOnly : Bool
  persistent : Bool
  expiry : Int
  creation : Int
  access : Int
deriving DecidableEq, Inhabited
def CItem.enc (x : CItem) : List SV := [.str x.name, .str x.domain, .str x.path, .str x.value, .bool x.hostOnly, .bool x.secure, .bool x.httpOnly, .bool x.persistent, .int .i64 x.expiry, .int .i64 x.creation, .int .i64 x.access]
structure CKey where
  name : List UInt8
  domain : List UInt8
  path : List UInt8
deriving DecidableEq, Inhabited
def CKey.enc (x : CKey) : List SV := [.str x.name, .str x.domain, .str x.path]
end Go.Proofs

set_option maxRecDepth 100000
namespace Go.Proofs
open Go Go.Am Go.RowKit
theorem Try.fn5 : Try.tab.fns.get 5 = some Try.f5 := by kernel_rfl
theorem Try.awakeRun : allTrue (run Try.tab 200000 { fr := AFrame.enter Try.f5 5 (Try.f5.body.getD .skip) [] .normal, cs := [], h := emptyH }) = true := by kernel_rfl
theorem Try.fn43 : Try.tab.fns.get 43 = some Try.f43 := by kernel_rfl
theorem Try.cmpRun (a b : List UInt8) : run Try.tab 200 { fr := AFrame.enter Try.f43 43 (Try.f43.body.getD .skip) [.str a, .str b] .normal, cs := [], h := emptyH } = .ok [(.int .i64 (Extern.BytealgCompare.cmp ⟨a.toArray⟩ ⟨b.toArray⟩), emptyH)] := by kernel_rfl
end Go.Proofs

set_option maxRecDepth 100000
namespace Go.Proofs
open Go Go.Am Go.RowKit Go.Sy
noncomputable def cAwake : Con := { Y := Unit, pre := fun _ => True, args := fun _ => [], res := fun _ => .bool true }
def cmpB (a b : List UInt8) : Int := match Extern.BytealgCompare.cmp ⟨a.toArray⟩ ⟨b.toArray⟩ with | n => n
noncomputable def cCmp : Con := { Y := List UInt8 × List UInt8, pre := fun _ => True, args := fun y => [.str y.1, .str y.2], res := fun y => .int .i64 (cmpB y.1 y.2) }
theorem Try.awakeOk : Go.Sy.ConOK Try.prog Try.tab 5 cAwake := by
  refine ConOK.shut Try.prOk fun fn body hfn hb y _ avs Fz hav => ?_
  rw [Try.fn5] at hfn
  cases hfn
  have hl : avs = [] := by
    have := hav.1
    cases avs with
    | nil => rfl
    | cons => simp [cAwake] at this
  subst hl
  refine ⟨fun _ _ => rfl, fun v _ => v = .bool true, ?_, ?_⟩
  · obtain ⟨outs, ho, ht⟩ := allTrue_ok Try.awakeRun
    rw [hb] at ho
    exact (AGo.run Try.prOk ho).mono fun v h' hm => ht v h' hm
  · rintro v h' rfl
    exact ⟨fun _ _ => rfl, .bool true⟩
theorem Try.cmpOk : Go.Sy.ConOK Try.prog Try.tab 43 cCmp := by
  refine ConOK.shut Try.prOk fun fn body hfn hb y _ avs Fz hav => ?_
  rw [Try.fn43] at hfn
  cases hfn
  obtain ⟨a, b⟩ := y
  have hl : avs = [.str a, .str b] := by
    obtain ⟨h1, h2⟩ := hav
    cases avs with
    | nil => simp [cCmp] at h1
    | cons u avs => cases avs with
      | nil => simp [cCmp] at h1
      | cons w avs => cases avs with
        | cons => simp [cCmp] at h1
        | nil =>
          have e1 := h2 0 _ u rfl rfl
          have e2 := h2 1 _ w rfl rfl
          simp only at e1 e2
          cases e1
          cases e2
          rfl
  subst hl
  refine ⟨fun _ _ => rfl, fun v _ => v = .int .i64 (cmpB a b), ?_, ?_⟩
  · have ho := Try.cmpRun a b
    rw [hb] at ho
    refine (AGo.run Try.prOk ho).mono fun v h' hm => ?_
    simp only [List.mem_cons, List.not_mem_nil, or_false, Prod.mk.injEq] at hm
    exact hm.1
  · rintro v h' rfl
    exact ⟨fun _ _ => rfl, .int _ _⟩
end Go.Proofs

namespace Go.Proofs
open Go Go.Am Go.RowKit Go.Sy Go.Lib
/-! Plain: keys and items in their orders. -/
abbrev lt (a b : List UInt8) : Bool := Op.bytesLess a b
theorem lt_irrefl : ∀ a, lt a a = false
  | [] => rfl
  | a :: l => by simp [lt, Op.bytesLess]; exact lt_irrefl l
theorem lt_trans : ∀ a b c, lt a b = true → lt b c = true → lt a c = true := by
  intro a
  induction a with
  | nil => intro b c h1 h2; cases c with
    | nil => cases b <;> simp [lt, Op.bytesLess] at h1 h2
    | cons => rfl
  | cons x a ih =>
    intro b c h1 h2
    cases b with
    | nil => simp [lt, Op.bytesLess] at h1
    | cons y b => cases c with
      | nil => simp [lt, Op.bytesLess] at h2
      | cons z c =>
        simp only [lt, Op.bytesLess, Bool.or_eq_true, decide_eq_true_eq, Bool.and_eq_true, beq_iff_eq] at *
        rcases h1 with h1 | ⟨rfl, h1⟩ <;> rcases h2 with h2 | ⟨rfl, h2⟩
        · exact .inl (UInt8.lt_trans h1 h2)
        · exact .inl h1
        · exact .inl h2
        · exact .inr ⟨rfl, ih b c h1 h2⟩
theorem lt_tri : ∀ a b, lt a b = true ∨ a = b ∨ lt b a = true := by
  intro a
  induction a with
  | nil => intro b; cases b <;> simp [lt, Op.bytesLess]
  | cons x a ih =>
    intro b
    cases b with
    | nil => simp [lt, Op.bytesLess]
    | cons y b =>
      simp only [lt, Op.bytesLess, Bool.or_eq_true, decide_eq_true_eq, Bool.and_eq_true, beq_iff_eq, List.cons.injEq]
      rcases Nat.lt_trichotomy x.toNat y.toNat with h | h | h
      · exact .inl (.inl (UInt8.lt_iff_toNat_lt.2 h))
      · have h : x = y := UInt8.toNat_inj.1 h
        subst h
        rcases ih b with h | h | h
        · exact .inl (.inr ⟨rfl, h⟩)
        · exact .inr (.inl ⟨rfl, h⟩)
        · exact .inr (.inr (.inr ⟨rfl, h⟩))
      · exact .inr (.inr (.inl (UInt8.lt_iff_toNat_lt.2 h)))
theorem lt_asymm (a b : List UInt8) (h : lt a b = true) : lt b a = false := by
  cases hb : lt b a
  · rfl
  · have := lt_trans a b a h hb
    rw [lt_irrefl] at this
    cases this
def cmpS (a b : List UInt8) : Int := if lt a b then -1 else if a = b then 0 else 1
theorem compareBytes_eq : ∀ (a b : List UInt8), compareBytes a b = cmpS a b := by
  intro a
  induction a with
  | nil => intro b; cases b <;> simp [compareBytes, cmpS, lt, Op.bytesLess]
  | cons x a ih =>
    intro b
    cases b with
    | nil => simp [compareBytes, cmpS, lt, Op.bytesLess]
    | cons y b =>
      simp only [compareBytes, ih b, cmpS, lt, Op.bytesLess, Bool.or_eq_true, decide_eq_true_eq, Bool.and_eq_true, beq_iff_eq, List.cons.injEq]
      by_cases h1 : x < y
      · simp [h1]
      · by_cases h2 : y < x
        · have : x ≠ y := by rintro rfl; exact h1 h2
          simp [h1, h2, this]
        · have : x = y := UInt8.toNat_inj.1 (by have := UInt8.not_lt.1 h1; have := UInt8.not_lt.1 h2; simp [UInt8.le_iff_toNat_le] at *; omega)
          subst this
          simp
theorem cmpB_eq (a b : List UInt8) : cmpB a b = cmpS a b := by
  have h : cmpB a b = Extern.BytealgCompare.cmp ⟨a.toArray⟩ ⟨b.toArray⟩ := rfl
  rw [h, cmp_eq, compareBytes_eq]
end Go.Proofs

set_option maxRecDepth 100000
namespace Go.Proofs
open Go Go.Am Go.RowKit Go.Sy
def CItem.key (x : CItem) : CKey := ⟨x.name, x.domain, x.path⟩
def cmpI (a b : Int) : Int := if a < b then -1 else if b < a then 1 else 0
def keyCmp (a b : CKey) : Int := let n := cmpS a.name b.name; if n ≠ 0 then n else let d := cmpS a.domain b.domain; if d ≠ 0 then d else cmpS a.path b.path
def keyLess (a b : CKey) : Bool := decide (keyCmp a b < 0)
def staleK (a b : CItem) : Int :=
  let n := if cmpI a.access b.access ≠ 0 then cmpI a.access b.access else cmpI a.creation b.creation
  if n ≠ 0 ∨ a.key = b.key then n else if keyLess a.key b.key then -1 else 1
noncomputable def vw : TypeId → Option View := fun _ => none
noncomputable def cCmpI : Con := { Y := Int × Int, pre := fun _ => True, args := fun y => [.int .i64 y.1, .int .i64 y.2], res := fun y => .int .i64 (cmpI y.1 y.2) }
noncomputable def cCmpS : Con := { Y := List UInt8 × List UInt8, pre := fun _ => True, args := fun y => [.str y.1, .str y.2], res := fun y => .int .i64 (cmpS y.1 y.2) }
noncomputable def cKeys : Con := { Y := CKey × CKey, pre := fun _ => True, args := fun y => [.agg y.1.enc, .agg y.2.enc], res := fun y => .int .i64 (keyCmp y.1 y.2) }
noncomputable def cLess : Con := { Y := CKey × CKey, pre := fun _ => True, args := fun y => [.agg y.1.enc, .agg y.2.enc], res := fun y => .bool (keyLess y.1 y.2) }
noncomputable def cStale : Con := { Y := CItem × CItem, pre := fun _ => True, args := fun y => [.agg y.1.enc, .agg y.2.enc], res := fun y => .int .i64 (staleK y.1 y.2) }
noncomputable def cStaler : Con := { Y := CItem × CItem, pre := fun _ => True, args := fun y => [.agg y.1.enc, .agg y.2.enc], res := fun y => .bool (decide (staleK y.1 y.2 < 0)) }
noncomputable def cStalerR : Con := { Y := CItem × CItem, pre := fun _ => True, args := fun y => [.agg y.1.enc, .agg y.2.enc], res := fun y => .bool (decide (staleK y.1 y.2 < 0)) }
noncomputable def cfgOf (con : FuncId → Option Con) : Cfg := { tab := Try.tab, view := vw, con := con, ann := fun _ _ => none }
noncomputable def con1 (f : FuncId) : Option Con := bif Nat.beq f 5 then some cAwake else bif Nat.beq f 43 then some cCmpS else none
noncomputable def con2 (f : FuncId) : Option Con := bif Nat.beq f 14 then some cCmpI else con1 f
noncomputable def con3 (f : FuncId) : Option Con := bif Nat.beq f 25 then some cKeys else con2 f
noncomputable def con4 (f : FuncId) : Option Con := bif Nat.beq f 15 then some cLess else bif Nat.beq f 10 then some cLess else con3 f
noncomputable def con5 (f : FuncId) : Option Con := bif Nat.beq f 9 then some cStale else con4 f
noncomputable def con6 (f : FuncId) : Option Con := bif Nat.beq f 6 then some cStaler else bif Nat.beq f 7 then some cStalerR else con5 f
end Go.Proofs

set_option maxRecDepth 100000
set_option maxHeartbeats 4000000
namespace Go.Proofs
open Go Go.Am Go.RowKit Go.Sy
theorem vc14 : (askC (cfgOf con1) 400 14 cCmpI) = (∀ (y : Con.Y cCmpI),
  True →
    br (!Prod.fst y == Prod.fst y)
      (br (!Prod.snd y == Prod.snd y) (0 = cmpI (Prod.fst y) (Prod.snd y) ∧ True) (-1 = cmpI (Prod.fst y) (Prod.snd y) ∧ True))
      (br (!Prod.snd y == Prod.snd y) (1 = cmpI (Prod.fst y) (Prod.snd y) ∧ True)
        (br (ltI (Prod.fst y) (Prod.snd y)) (-1 = cmpI (Prod.fst y) (Prod.snd y) ∧ True)
          (br (ltI (Prod.snd y) (Prod.fst y)) (1 = cmpI (Prod.fst y) (Prod.snd y) ∧ True) (0 = cmpI (Prod.fst y) (Prod.snd y) ∧ True))))) := by kernel_rfl
theorem vc25 : (askC (cfgOf con2) 400 25 cKeys) = (∀ (y : Con.Y cKeys),
  True →
    ∃ (y_1 : Con.Y cCmpS),
      CKey.name (Prod.fst y) = Prod.fst y_1 ∧
        CKey.name (Prod.snd y) = Prod.snd y_1 ∧
          True ∧
            ∃ (y_2 : Con.Y cCmpS),
              CKey.domain (Prod.fst y) = Prod.fst y_2 ∧
                CKey.domain (Prod.snd y) = Prod.snd y_2 ∧
                  True ∧
                    ∃ (y_3 : Con.Y cCmpS),
                      CKey.path (Prod.fst y) = Prod.fst y_3 ∧
                        CKey.path (Prod.snd y) = Prod.snd y_3 ∧
                        True ∧
                        br (!cmpS (Prod.fst y_1) (Prod.snd y_1) == 0)
                        (cmpS (Prod.fst y_1) (Prod.snd y_1) = keyCmp (Prod.fst y) (Prod.snd y) ∧ True)
                        (br (!cmpS (Prod.fst y_2) (Prod.snd y_2) == 0)
                        (cmpS (Prod.fst y_2) (Prod.snd y_2) = keyCmp (Prod.fst y) (Prod.snd y) ∧ True)
                        (br (!cmpS (Prod.fst y_3) (Prod.snd y_3) == 0)
                        (cmpS (Prod.fst y_3) (Prod.snd y_3) = keyCmp (Prod.fst y) (Prod.snd y) ∧ True)
                        (0 = keyCmp (Prod.fst y) (Prod.snd y) ∧ True)))) := by kernel_rfl
theorem vc15 : (askC (cfgOf con3) 400 15 cLess) = (∀ (y : Con.Y cLess),
  True →
    ∃ (y_1 : Con.Y cKeys),
      CKey.name (Prod.fst y) = CKey.name (Prod.fst y_1) ∧
        CKey.domain (Prod.fst y) = CKey.domain (Prod.fst y_1) ∧
          CKey.path (Prod.fst y) = CKey.path (Prod.fst y_1) ∧
            CKey.name (Prod.snd y) = CKey.name (Prod.snd y_1) ∧
              CKey.domain (Prod.snd y) = CKey.domain (Prod.snd y_1) ∧
                CKey.path (Prod.snd y) = CKey.path (Prod.snd y_1) ∧
                  True ∧ ltI (keyCmp (Prod.fst y_1) (Prod.snd y_1)) 0 = keyLess (Prod.fst y) (Prod.snd y) ∧ True) := by kernel_rfl
theorem vc10 : (askC (cfgOf con3) 400 10 cLess) = (∀ (y : Con.Y cLess),
  True →
    br (!CKey.name (Prod.fst y) == CKey.name (Prod.snd y))
      (Go.Op.bytesLess (CKey.name (Prod.fst y)) (CKey.name (Prod.snd y)) = keyLess (Prod.fst y) (Prod.snd y) ∧ True)
      (br (!CKey.domain (Prod.fst y) == CKey.domain (Prod.snd y))
        (Go.Op.bytesLess (CKey.domain (Prod.fst y)) (CKey.domain (Prod.snd y)) = keyLess (Prod.fst y) (Prod.snd y) ∧ True)
        (Go.Op.bytesLess (CKey.path (Prod.fst y)) (CKey.path (Prod.snd y)) = keyLess (Prod.fst y) (Prod.snd y) ∧ True))) := by kernel_rfl
theorem vc9 : (askC (cfgOf con4) 400 9 cStale) = (∀ (y : Con.Y cStale),
  True →
    ∃ (y_1 : Con.Y cCmpI),
      CItem.access (Prod.fst y) = Prod.fst y_1 ∧
        CItem.access (Prod.snd y) = Prod.snd y_1 ∧
          True ∧
            ∃ (y_2 : Con.Y cCmpI),
              CItem.creation (Prod.fst y) = Prod.fst y_2 ∧
                CItem.creation (Prod.snd y) = Prod.snd y_2 ∧
                  True ∧
                    br (!cmpI (Prod.fst y_1) (Prod.snd y_1) == 0)
                      (br (!cmpI (Prod.fst y_1) (Prod.snd y_1) == 0)
                        (cmpI (Prod.fst y_1) (Prod.snd y_1) = staleK (Prod.fst y) (Prod.snd y) ∧ True)
                        (br
                        (CItem.name (Prod.fst y) == CItem.name (Prod.snd y) &&
                        (CItem.domain (Prod.fst y) == CItem.domain (Prod.snd y) &&
                        (CItem.path (Prod.fst y) == CItem.path (Prod.snd y) && Bool.true)))
                        (cmpI (Prod.fst y_1) (Prod.snd y_1) = staleK (Prod.fst y) (Prod.snd y) ∧ True)
                        (∃ (y_3 : Con.Y cLess),
                        CItem.name (Prod.fst y) = CKey.name (Prod.fst y_3) ∧
                        CItem.domain (Prod.fst y) = CKey.domain (Prod.fst y_3) ∧
                        CItem.path (Prod.fst y) = CKey.path (Prod.fst y_3) ∧
                        CItem.name (Prod.snd y) = CKey.name (Prod.snd y_3) ∧
                        CItem.domain (Prod.snd y) = CKey.domain (Prod.snd y_3) ∧
                        CItem.path (Prod.snd y) = CKey.path (Prod.snd y_3) ∧
                        True ∧
                        br (keyLess (Prod.fst y_3) (Prod.snd y_3)) (-1 = staleK (Prod.fst y) (Prod.snd y) ∧ True)
                        (1 = staleK (Prod.fst y) (Prod.snd y) ∧ True))))
                      (br (!cmpI (Prod.fst y_2) (Prod.snd y_2) == 0)
                        (br (!cmpI (Prod.fst y_2) (Prod.snd y_2) == 0)
                        (cmpI (Prod.fst y_2) (Prod.snd y_2) = staleK (Prod.fst y) (Prod.snd y) ∧ True)
                        (br
                        (CItem.name (Prod.fst y) == CItem.name (Prod.snd y) &&
                        (CItem.domain (Prod.fst y) == CItem.domain (Prod.snd y) &&
                        (CItem.path (Prod.fst y) == CItem.path (Prod.snd y) && Bool.true)))
                        (cmpI (Prod.fst y_2) (Prod.snd y_2) = staleK (Prod.fst y) (Prod.snd y) ∧ True)
                        (∃ (y_3 : Con.Y cLess),
                        CItem.name (Prod.fst y) = CKey.name (Prod.fst y_3) ∧
                        CItem.domain (Prod.fst y) = CKey.domain (Prod.fst y_3) ∧
                        CItem.path (Prod.fst y) = CKey.path (Prod.fst y_3) ∧
                        CItem.name (Prod.snd y) = CKey.name (Prod.snd y_3) ∧
                        CItem.domain (Prod.snd y) = CKey.domain (Prod.snd y_3) ∧
                        CItem.path (Prod.snd y) = CKey.path (Prod.snd y_3) ∧
                        True ∧
                        br (keyLess (Prod.fst y_3) (Prod.snd y_3)) (-1 = staleK (Prod.fst y) (Prod.snd y) ∧ True)
                        (1 = staleK (Prod.fst y) (Prod.snd y) ∧ True))))
                        (br
                        (CItem.name (Prod.fst y) == CItem.name (Prod.snd y) &&
                        (CItem.domain (Prod.fst y) == CItem.domain (Prod.snd y) &&
                        (CItem.path (Prod.fst y) == CItem.path (Prod.snd y) && Bool.true)))
                        (0 = staleK (Prod.fst y) (Prod.snd y) ∧ True)
                        (∃ (y_3 : Con.Y cLess),
                        CItem.name (Prod.fst y) = CKey.name (Prod.fst y_3) ∧
                        CItem.domain (Prod.fst y) = CKey.domain (Prod.fst y_3) ∧
                        CItem.path (Prod.fst y) = CKey.path (Prod.fst y_3) ∧
                        CItem.name (Prod.snd y) = CKey.name (Prod.snd y_3) ∧
                        CItem.domain (Prod.snd y) = CKey.domain (Prod.snd y_3) ∧
                        CItem.path (Prod.snd y) = CKey.path (Prod.snd y_3) ∧
                        True ∧
                        br (keyLess (Prod.fst y_3) (Prod.snd y_3)) (-1 = staleK (Prod.fst y) (Prod.snd y) ∧ True)
                        (1 = staleK (Prod.fst y) (Prod.snd y) ∧ True))))) := by kernel_rfl
theorem vc6 : (askC (cfgOf con5) 400 6 cStaler) = (∀ (y : Con.Y cStaler),
  True →
    ∃ (y_1 : Con.Y cStale),
      CItem.name (Prod.fst y) = CItem.name (Prod.fst y_1) ∧
        CItem.domain (Prod.fst y) = CItem.domain (Prod.fst y_1) ∧
          CItem.path (Prod.fst y) = CItem.path (Prod.fst y_1) ∧
            CItem.value (Prod.fst y) = CItem.value (Prod.fst y_1) ∧
              CItem.hostOnly (Prod.fst y) = CItem.hostOnly (Prod.fst y_1) ∧
                CItem.secure (Prod.fst y) = CItem.secure (Prod.fst y_1) ∧
                  CItem.httpOnly (Prod.fst y) = CItem.httpOnly (Prod.fst y_1) ∧
                    CItem.persistent (Prod.fst y) = CItem.persistent (Prod.fst y_1) ∧
                      CItem.expiry (Prod.fst y) = CItem.expiry (Prod.fst y_1) ∧
                        CItem.creation (Prod.fst y) = CItem.creation (Prod.fst y_1) ∧
                        CItem.access (Prod.fst y) = CItem.access (Prod.fst y_1) ∧
                        CItem.name (Prod.snd y) = CItem.name (Prod.snd y_1) ∧
                        CItem.domain (Prod.snd y) = CItem.domain (Prod.snd y_1) ∧
                        CItem.path (Prod.snd y) = CItem.path (Prod.snd y_1) ∧
                        CItem.value (Prod.snd y) = CItem.value (Prod.snd y_1) ∧
                        CItem.hostOnly (Prod.snd y) = CItem.hostOnly (Prod.snd y_1) ∧
                        CItem.secure (Prod.snd y) = CItem.secure (Prod.snd y_1) ∧
                        CItem.httpOnly (Prod.snd y) = CItem.httpOnly (Prod.snd y_1) ∧
                        CItem.persistent (Prod.snd y) = CItem.persistent (Prod.snd y_1) ∧
                        CItem.expiry (Prod.snd y) = CItem.expiry (Prod.snd y_1) ∧
                        CItem.creation (Prod.snd y) = CItem.creation (Prod.snd y_1) ∧
                        CItem.access (Prod.snd y) = CItem.access (Prod.snd y_1) ∧
                        True ∧
                        ltI (staleK (Prod.fst y_1) (Prod.snd y_1)) 0 =
                        Decidable.decide (staleK (Prod.fst y) (Prod.snd y) < 0) ∧
                        True) := by kernel_rfl
theorem vc7 : (askC (cfgOf con5) 400 7 cStalerR) = (∀ (y : Con.Y cStalerR),
  True →
    br (!CItem.access (Prod.fst y) == CItem.access (Prod.snd y))
      (ltI (CItem.access (Prod.fst y)) (CItem.access (Prod.snd y)) = Decidable.decide (staleK (Prod.fst y) (Prod.snd y) < 0) ∧ True)
      (br (!CItem.creation (Prod.fst y) == CItem.creation (Prod.snd y))
        (ltI (CItem.creation (Prod.fst y)) (CItem.creation (Prod.snd y)) = Decidable.decide (staleK (Prod.fst y) (Prod.snd y) < 0) ∧ True)
        (∃ (y_1 : Con.Y cLess),
          CItem.name (Prod.fst y) = CKey.name (Prod.fst y_1) ∧
            CItem.domain (Prod.fst y) = CKey.domain (Prod.fst y_1) ∧
              CItem.path (Prod.fst y) = CKey.path (Prod.fst y_1) ∧
                CItem.name (Prod.snd y) = CKey.name (Prod.snd y_1) ∧
                  CItem.domain (Prod.snd y) = CKey.domain (Prod.snd y_1) ∧
                    CItem.path (Prod.snd y) = CKey.path (Prod.snd y_1) ∧
                      True ∧ keyLess (Prod.fst y_1) (Prod.snd y_1) = Decidable.decide (staleK (Prod.fst y) (Prod.snd y) < 0) ∧ True))) := by kernel_rfl
theorem vc3 : (∀ (x y : CItem), Sy.ask (cfgOf con6) 400 3 [SV.agg (CItem.enc x), SV.agg (CItem.enc y)] isT) = (∀ (x y : CItem),
  br (ltI 300 (Int.ofNat (List.length (CItem.name x)))) (∃ (y : Con.Y cAwake), True ∧ Bool.true = Bool.true)
    (br (ltI 300 (Int.ofNat (List.length (CItem.domain x)))) (∃ (y : Con.Y cAwake), True ∧ Bool.true = Bool.true)
      (br (ltI 300 (Int.ofNat (List.length (CItem.path x)))) (∃ (y : Con.Y cAwake), True ∧ Bool.true = Bool.true)
        (br (ltI 300 (Int.ofNat (List.length (CItem.value x)))) (∃ (y : Con.Y cAwake), True ∧ Bool.true = Bool.true)
          (br (ltI 300 (Int.ofNat (List.length (CItem.name y)))) (∃ (y : Con.Y cAwake), True ∧ Bool.true = Bool.true)
            (br (ltI 300 (Int.ofNat (List.length (CItem.domain y)))) (∃ (y : Con.Y cAwake), True ∧ Bool.true = Bool.true)
              (br (ltI 300 (Int.ofNat (List.length (CItem.path y)))) (∃ (y : Con.Y cAwake), True ∧ Bool.true = Bool.true)
                (br (ltI 300 (Int.ofNat (List.length (CItem.value y)))) (∃ (y : Con.Y cAwake), True ∧ Bool.true = Bool.true)
                  (∃ (y_1 : Con.Y cStaler),
                    CItem.name x = CItem.name (Prod.fst y_1) ∧
                      CItem.domain x = CItem.domain (Prod.fst y_1) ∧
                        CItem.path x = CItem.path (Prod.fst y_1) ∧
                        CItem.value x = CItem.value (Prod.fst y_1) ∧
                        CItem.hostOnly x = CItem.hostOnly (Prod.fst y_1) ∧
                        CItem.secure x = CItem.secure (Prod.fst y_1) ∧
                        CItem.httpOnly x = CItem.httpOnly (Prod.fst y_1) ∧
                        CItem.persistent x = CItem.persistent (Prod.fst y_1) ∧
                        CItem.expiry x = CItem.expiry (Prod.fst y_1) ∧
                        CItem.creation x = CItem.creation (Prod.fst y_1) ∧
                        CItem.access x = CItem.access (Prod.fst y_1) ∧
                        CItem.name y = CItem.name (Prod.snd y_1) ∧
                        CItem.domain y = CItem.domain (Prod.snd y_1) ∧
                        CItem.path y = CItem.path (Prod.snd y_1) ∧
                        CItem.value y = CItem.value (Prod.snd y_1) ∧
                        CItem.hostOnly y = CItem.hostOnly (Prod.snd y_1) ∧
                        CItem.secure y = CItem.secure (Prod.snd y_1) ∧
                        CItem.httpOnly y = CItem.httpOnly (Prod.snd y_1) ∧
                        CItem.persistent y = CItem.persistent (Prod.snd y_1) ∧
                        CItem.expiry y = CItem.expiry (Prod.snd y_1) ∧
                        CItem.creation y = CItem.creation (Prod.snd y_1) ∧
                        CItem.access y = CItem.access (Prod.snd y_1) ∧
                        True ∧
                        ∃ (y_2 : Con.Y cStalerR),
                        CItem.name x = CItem.name (Prod.fst y_2) ∧
                        CItem.domain x = CItem.domain (Prod.fst y_2) ∧
                        CItem.path x = CItem.path (Prod.fst y_2) ∧
                        CItem.value x = CItem.value (Prod.fst y_2) ∧
                        CItem.hostOnly x = CItem.hostOnly (Prod.fst y_2) ∧
                        CItem.secure x = CItem.secure (Prod.fst y_2) ∧
                        CItem.httpOnly x = CItem.httpOnly (Prod.fst y_2) ∧
                        CItem.persistent x = CItem.persistent (Prod.fst y_2) ∧
                        CItem.expiry x = CItem.expiry (Prod.fst y_2) ∧
                        CItem.creation x = CItem.creation (Prod.fst y_2) ∧
                        CItem.access x = CItem.access (Prod.fst y_2) ∧
                        CItem.name y = CItem.name (Prod.snd y_2) ∧
                        CItem.domain y = CItem.domain (Prod.snd y_2) ∧
                        CItem.path y = CItem.path (Prod.snd y_2) ∧
                        CItem.value y = CItem.value (Prod.snd y_2) ∧
                        CItem.hostOnly y = CItem.hostOnly (Prod.snd y_2) ∧
                        CItem.secure y = CItem.secure (Prod.snd y_2) ∧
                        CItem.httpOnly y = CItem.httpOnly (Prod.snd y_2) ∧
                        CItem.persistent y = CItem.persistent (Prod.snd y_2) ∧
                        CItem.expiry y = CItem.expiry (Prod.snd y_2) ∧
                        CItem.creation y = CItem.creation (Prod.snd y_2) ∧
                        CItem.access y = CItem.access (Prod.snd y_2) ∧
                        True ∧
                        br
                        (Decidable.decide
                        (staleK (Prod.fst y_1) (Prod.snd y_1) < 0) ==
                        Decidable.decide
                        (staleK (Prod.fst y_2) (Prod.snd y_2) < 0))
                        (br
                        (CItem.name x == CItem.name y &&
                        (CItem.domain x == CItem.domain y &&
                        (CItem.path x == CItem.path y &&
                        Bool.true)))
                        (∃ (y : Con.Y cAwake),
                        True ∧ Bool.true = Bool.true)
                        (∃ (y_3 : Con.Y cStaler),
                        CItem.name x =
                        CItem.name (Prod.fst y_3) ∧
                        CItem.domain x =
                        CItem.domain (Prod.fst y_3) ∧
                        CItem.path x =
                        CItem.path (Prod.fst y_3) ∧
                        CItem.value x =
                        CItem.value (Prod.fst y_3) ∧
                        CItem.hostOnly x =
                        CItem.hostOnly (Prod.fst y_3) ∧
                        CItem.secure x =
                        CItem.secure (Prod.fst y_3) ∧
                        CItem.httpOnly x =
                        CItem.httpOnly (Prod.fst y_3) ∧
                        CItem.persistent x =
                        CItem.persistent
                        (Prod.fst y_3) ∧
                        CItem.expiry x =
                        CItem.expiry (Prod.fst y_3) ∧
                        CItem.creation x =
                        CItem.creation
                        (Prod.fst y_3) ∧
                        CItem.access x =
                        CItem.access
                        (Prod.fst y_3) ∧
                        CItem.name y =
                        CItem.name
                        (Prod.snd y_3) ∧
                        CItem.domain y =
                        CItem.domain
                        (Prod.snd y_3) ∧
                        CItem.path y =
                        CItem.path
                        (Prod.snd y_3) ∧
                        CItem.value y =
                        CItem.value
                        (Prod.snd y_3) ∧
                        CItem.hostOnly y =
                        CItem.hostOnly
                        (Prod.snd y_3) ∧
                        CItem.secure y =
                        CItem.secure
                        (Prod.snd y_3) ∧
                        CItem.httpOnly
                        y =
                        CItem.httpOnly
                        (Prod.snd y_3) ∧
                        CItem.persistent
                        y =
                        CItem.persistent
                        (Prod.snd y_3) ∧
                        CItem.expiry
                        y =
                        CItem.expiry
                        (Prod.snd y_3) ∧
                        CItem.creation
                        y =
                        CItem.creation
                        (Prod.snd
                        y_3) ∧
                        CItem.access
                        y =
                        CItem.access
                        (Prod.snd
                        y_3) ∧
                        True ∧
                        ∃ (y_4 :
                        Con.Y
                        cStaler),
                        CItem.name
                        y =
                        CItem.name
                        (Prod.fst
                        y_4) ∧
                        CItem.domain
                        y =
                        CItem.domain
                        (Prod.fst
                        y_4) ∧
                        CItem.path
                        y =
                        CItem.path
                        (Prod.fst
                        y_4) ∧
                        CItem.value
                        y =
                        CItem.value
                        (Prod.fst
                        y_4) ∧
                        CItem.hostOnly
                        y =
                        CItem.hostOnly
                        (Prod.fst
                        y_4) ∧
                        CItem.secure
                        y =
                        CItem.secure
                        (Prod.fst
                        y_4) ∧
                        CItem.httpOnly
                        y =
                        CItem.httpOnly
                        (Prod.fst
                        y_4) ∧
                        CItem.persistent
                        y =
                        CItem.persistent
                        (Prod.fst
                        y_4) ∧
                        CItem.expiry
                        y =
                        CItem.expiry
                        (Prod.fst
                        y_4) ∧
                        CItem.creation
                        y =
                        CItem.creation
                        (Prod.fst
                        y_4) ∧
                        CItem.access
                        y =
                        CItem.access
                        (Prod.fst
                        y_4) ∧
                        CItem.name
                        x =
                        CItem.name
                        (Prod.snd
                        y_4) ∧
                        CItem.domain
                        x =
                        CItem.domain
                        (Prod.snd
                        y_4) ∧
                        CItem.path
                        x =
                        CItem.path
                        (Prod.snd
                        y_4) ∧
                        CItem.value
                        x =
                        CItem.value
                        (Prod.snd
                        y_4) ∧
                        CItem.hostOnly
                        x =
                        CItem.hostOnly
                        (Prod.snd
                        y_4) ∧
                        CItem.secure
                        x =
                        CItem.secure
                        (Prod.snd
                        y_4) ∧
                        CItem.httpOnly
                        x =
                        CItem.httpOnly
                        (Prod.snd
                        y_4) ∧
                        CItem.persistent
                        x =
                        CItem.persistent
                        (Prod.snd
                        y_4) ∧
                        CItem.expiry
                        x =
                        CItem.expiry
                        (Prod.snd
                        y_4) ∧
                        CItem.creation
                        x =
                        CItem.creation
                        (Prod.snd
                        y_4) ∧
                        CItem.access
                        x =
                        CItem.access
                        (Prod.snd
                        y_4) ∧
                        True ∧
                        br
                        (!Decidable.decide
                        (staleK
                        (Prod.fst
                        y_3)
                        (Prod.snd
                        y_3) <
                        0) ==
                        Decidable.decide
                        (staleK
                        (Prod.fst
                        y_4)
                        (Prod.snd
                        y_4) <
                        0))
                        (∃
                        (y
                        :
                        Con.Y
                        cAwake),
                        True ∧
                        Bool.true =
                        Bool.true)
                        (Bool.false =
                        Bool.true)))
                        (Bool.false = Bool.true)))))))))) := by kernel_rfl
end Go.Proofs

set_option maxRecDepth 100000
namespace Go.Proofs
open Go Go.Am Go.RowKit Go.Sy
theorem Try.cmpOk' : Go.Sy.ConOK Try.prog Try.tab 43 cCmpS := by
  have h : cCmpS = cCmp := by unfold cCmpS cCmp; simp only [cmpB_eq]
  rw [h]; exact Try.cmpOk
theorem con1_ok : ∀ g C, con1 g = some C → Go.Sy.ConOK Try.prog Try.tab g C := con_step Try.awakeOk (con_step Try.cmpOk' con_none)
theorem ok14 : Go.Sy.ConOK Try.prog Try.tab 14 cCmpI := askC_ok (cfg := cfgOf con1) Try.prOk rfl con1_ok (n := 400) (by
  rw [vc14]
  rintro ⟨a, b⟩ -
  simp [br_iff, ltI_eq, cmpI]
  refine ⟨fun h1 h2 => by omega, fun h1 => ⟨fun h2 => ?_, fun h2 => ?_⟩⟩
  · rw [if_neg (by omega), if_pos h2]
  · rw [if_neg (by omega), if_neg (by omega)])
theorem con2_ok : ∀ g C, con2 g = some C → Go.Sy.ConOK Try.prog Try.tab g C := con_step ok14 con1_ok
theorem ok25 : Go.Sy.ConOK Try.prog Try.tab 25 cKeys := askC_ok (cfg := cfgOf con2) Try.prOk rfl con2_ok (n := 400) (by
  rw [vc25]
  rintro ⟨a, b⟩ -
  refine ⟨(_, _), rfl, rfl, trivial, ⟨(_, _), rfl, rfl, trivial, ⟨(_, _), rfl, rfl, trivial, ?_⟩⟩⟩
  simp only [br_iff, keyCmp, and_true]
  generalize cmpS a.name b.name = n
  generalize cmpS a.domain b.domain = d
  generalize cmpS a.path b.path = p
  refine ⟨fun h => ?_, fun h => ⟨fun h2 => ?_, fun h2 => ⟨fun h3 => ?_, fun h3 => ?_⟩⟩⟩ <;> simp_all)
theorem con3_ok : ∀ g C, con3 g = some C → Go.Sy.ConOK Try.prog Try.tab g C := con_step ok25 con2_ok
theorem ok15 : Go.Sy.ConOK Try.prog Try.tab 15 cLess := askC_ok (cfg := cfgOf con3) Try.prOk rfl con3_ok (n := 400) (by
  rw [vc15]
  rintro ⟨a, b⟩ -
  refine ⟨(a, b), rfl, rfl, rfl, rfl, rfl, rfl, trivial, ?_, trivial⟩
  simp only [ltI_eq, keyLess])
theorem keyLess_eq (a b : CKey) : keyLess a b = if a.name ≠ b.name then lt a.name b.name else if a.domain ≠ b.domain then lt a.domain b.domain else lt a.path b.path := by
  have c0 : ∀ a b : List UInt8, cmpS a b = 0 ↔ a = b := by
    intro a b
    unfold cmpS
    by_cases h : a = b
    · subst h; simp [lt_irrefl]
    · by_cases h1 : lt a b = true <;> simp [h, h1]
  have c1 : ∀ a b : List UInt8, decide (cmpS a b < 0) = lt a b := by
    intro a b
    unfold cmpS
    by_cases h1 : lt a b = true
    · simp [h1]
    · by_cases h : a = b <;> simp [h, h1, Bool.eq_false_iff.2 h1] <;> simp_all [lt_irrefl]
  unfold keyLess keyCmp
  by_cases h1 : a.name = b.name
  · have := (c0 a.name b.name).2 h1
    by_cases h2 : a.domain = b.domain
    · have := (c0 a.domain b.domain).2 h2
      simp_all
    · have := fun h => h2 ((c0 a.domain b.domain).1 h)
      simp_all
  · have := fun h => h1 ((c0 a.name b.name).1 h)
    simp_all
theorem ok10 : Go.Sy.ConOK Try.prog Try.tab 10 cLess := askC_ok (cfg := cfgOf con3) Try.prOk rfl con3_ok (n := 400) (by
  rw [vc10]
  rintro ⟨a, b⟩ -
  simp only [br_iff, keyLess_eq]
  refine ⟨fun h => ?_, fun h => ⟨fun h2 => ?_, fun h2 => ?_⟩⟩ <;> simp_all)
theorem con4_ok : ∀ g C, con4 g = some C → Go.Sy.ConOK Try.prog Try.tab g C := con_step ok15 (con_step ok10 con3_ok)
theorem ok9 : Go.Sy.ConOK Try.prog Try.tab 9 cStale := askC_ok (cfg := cfgOf con4) Try.prOk rfl con4_ok (n := 400) (by
  rw [vc9]
  rintro ⟨a, b⟩ -
  refine ⟨(_, _), rfl, rfl, trivial, ⟨(_, _), rfl, rfl, trivial, ?_⟩⟩
  have hk : (a.name == b.name && (a.domain == b.domain && (a.path == b.path && true))) = decide (a.key = b.key) := by
    rw [Bool.eq_iff_iff]; simp [CItem.key]
  simp only [hk, br_iff, staleK]
  generalize cmpI a.access b.access = n
  generalize cmpI a.creation b.creation = m
  refine ⟨fun hn => ⟨fun _ => ?_, fun hn2 => ?_⟩, fun hn => ⟨fun hm => ⟨fun _ => ?_, fun hm2 => ?_⟩, fun hm => ⟨fun hkk => ?_, fun hkk => ⟨(a.key, b.key), rfl, rfl, rfl, rfl, rfl, rfl, trivial, fun hl => ?_, fun hl => ?_⟩⟩⟩⟩
  all_goals simp_all)
theorem con5_ok : ∀ g C, con5 g = some C → Go.Sy.ConOK Try.prog Try.tab g C := con_step ok9 con4_ok
theorem ok6 : Go.Sy.ConOK Try.prog Try.tab 6 cStaler := askC_ok (cfg := cfgOf con5) Try.prOk rfl con5_ok (n := 400) (by
  rw [vc6]
  rintro ⟨a, b⟩ -
  refine ⟨(a, b), rfl, rfl, rfl, rfl, rfl, rfl, rfl, rfl, rfl, rfl, rfl, rfl, rfl, rfl, rfl, rfl, rfl, rfl, rfl, rfl, rfl, rfl, trivial, ?_, trivial⟩
  simp only [ltI_eq])
theorem cmpI_zero (a b : Int) : cmpI a b = 0 ↔ a = b := by
  unfold cmpI
  by_cases h : a < b
  · rw [if_pos h]; omega
  · rw [if_neg h]
    by_cases h2 : b < a
    · rw [if_pos h2]; omega
    · rw [if_neg h2]; omega
theorem cmpI_neg (a b : Int) : cmpI a b < 0 ↔ a < b := by
  unfold cmpI
  by_cases h : a < b
  · rw [if_pos h]; omega
  · rw [if_neg h]
    by_cases h2 : b < a
    · rw [if_pos h2]; omega
    · rw [if_neg h2]; omega
theorem keyLess_irrefl (a : CKey) : keyLess a a = false := by simp [keyLess_eq, lt_irrefl]
theorem stale_neg (a b : CItem) : decide (staleK a b < 0) = if a.access ≠ b.access then decide (a.access < b.access) else if a.creation ≠ b.creation then decide (a.creation < b.creation) else keyLess a.key b.key := by
  unfold staleK
  have e1 := cmpI_zero a.access b.access
  have e2 := cmpI_zero a.creation b.creation
  have e3 := cmpI_neg a.access b.access
  have e4 := cmpI_neg a.creation b.creation
  revert e1 e2 e3 e4
  generalize cmpI a.access b.access = n
  generalize cmpI a.creation b.creation = m
  intro e1 e2 e3 e4
  by_cases h1 : a.access = b.access
  · have h5 : n = 0 := e1.2 h1
    subst h5
    by_cases h2 : a.creation = b.creation
    · have h6 : m = 0 := e2.2 h2
      subst h6
      by_cases h3 : a.key = b.key
      · simp [h1, h2, h3, keyLess_irrefl]
      · by_cases h4 : keyLess a.key b.key = true <;> simp [h1, h2, h3, h4]
    · have h6 : m ≠ 0 := fun h => h2 (e2.1 h)
      simp [h1, h2, h6, e4]
  · have h6 : n ≠ 0 := fun h => h1 (e1.1 h)
    simp [h1, h6, e3]
theorem ok7 : Go.Sy.ConOK Try.prog Try.tab 7 cStalerR := askC_ok (cfg := cfgOf con5) Try.prOk rfl con5_ok (n := 400) (by
  rw [vc7]
  rintro ⟨a, b⟩ -
  simp only [br_iff, stale_neg, ltI_eq, and_true]
  refine ⟨fun h1 => ?_, fun h1 => ⟨fun h2 => ?_, fun h2 => ⟨(a.key, b.key), rfl, rfl, rfl, rfl, rfl, rfl, trivial, ?_⟩⟩⟩
  all_goals simp_all)
theorem con6_ok : ∀ g C, con6 g = some C → Go.Sy.ConOK Try.prog Try.tab g C := con_step ok6 (con_step ok7 con5_ok)
theorem keyLess_tri (a b : CKey) (h : a ≠ b) : keyLess a b ≠ keyLess b a := by
  simp only [keyLess_eq]
  by_cases h1 : a.name = b.name
  · by_cases h2 : a.domain = b.domain
    · have h3 : a.path ≠ b.path := fun h3 => h (by cases a; cases b; simp_all)
      simp only [h1, h2, ne_eq, not_true_eq_false, if_false]
      rcases lt_tri a.path b.path with h | h | h
      · simp [h, lt_asymm _ _ h]
      · exact absurd h h3
      · simp [h, lt_asymm _ _ h]
    · have h2' := Ne.symm h2
      simp only [h1, h2, h2', ne_eq, not_true_eq_false, not_false_eq_true, if_false, if_true]
      rcases lt_tri a.domain b.domain with h | h | h
      · simp [h, lt_asymm _ _ h]
      · exact absurd h h2
      · simp [h, lt_asymm _ _ h]
  · have h1' := Ne.symm h1
    simp only [h1, h1', ne_eq, not_false_eq_true, if_true]
    rcases lt_tri a.name b.name with h | h | h
    · simp [h, lt_asymm _ _ h]
    · exact absurd h h1
    · simp [h, lt_asymm _ _ h]
theorem stale_tri (a b : CItem) (h : a.key ≠ b.key) : decide (staleK a b < 0) ≠ decide (staleK b a < 0) := by
  rw [stale_neg, stale_neg]
  by_cases h1 : a.access = b.access
  · by_cases h2 : a.creation = b.creation
    · simp only [h1, h2, ne_eq, not_true_eq_false, if_false]
      exact keyLess_tri _ _ h
    · have h2' := Ne.symm h2
      simp only [h1, h2, h2', ne_eq, not_true_eq_false, not_false_eq_true, if_false, if_true]
      by_cases h3 : a.creation < b.creation
      · simp [h3]; omega
      · simp [h3]; omega
  · have h1' := Ne.symm h1
    simp only [h1, h1', ne_eq, not_false_eq_true, if_true]
    by_cases h3 : a.access < b.access
    · simp [h3]; omega
    · simp [h3]; omega
theorem law_ask (x y : CItem) : Sy.ask (cfgOf con6) 400 3 [SV.agg (CItem.enc x), SV.agg (CItem.enc y)] isT := by
  revert x y
  rw [vc3]
  intro x y
  have ha : ∃ (y : Con.Y cAwake), True ∧ Bool.true = Bool.true := ⟨(), trivial, rfl⟩
  have hk : (x.name == y.name && (x.domain == y.domain && (x.path == y.path && true))) = decide (x.key = y.key) := by
    rw [Bool.eq_iff_iff]; simp [CItem.key]
  refine br_iff.2 ⟨fun _ => ha, fun _ => br_iff.2 ⟨fun _ => ha, fun _ => br_iff.2 ⟨fun _ => ha, fun _ => br_iff.2 ⟨fun _ => ha, fun _ => br_iff.2 ⟨fun _ => ha, fun _ => br_iff.2 ⟨fun _ => ha, fun _ => br_iff.2 ⟨fun _ => ha, fun _ => br_iff.2 ⟨fun _ => ha, fun _ => ?_⟩⟩⟩⟩⟩⟩⟩⟩
  refine ⟨(x, y), rfl, rfl, rfl, rfl, rfl, rfl, rfl, rfl, rfl, rfl, rfl, rfl, rfl, rfl, rfl, rfl, rfl, rfl, rfl, rfl, rfl, rfl, trivial, ?_⟩
  refine ⟨(x, y), rfl, rfl, rfl, rfl, rfl, rfl, rfl, rfl, rfl, rfl, rfl, rfl, rfl, rfl, rfl, rfl, rfl, rfl, rfl, rfl, rfl, rfl, trivial, ?_⟩
  refine br_iff.2 ⟨fun _ => br_iff.2 ⟨fun _ => ha, fun hkk => ?_⟩, fun h => absurd h (by simp)⟩
  rw [hk] at hkk
  refine ⟨(x, y), rfl, rfl, rfl, rfl, rfl, rfl, rfl, rfl, rfl, rfl, rfl, rfl, rfl, rfl, rfl, rfl, rfl, rfl, rfl, rfl, rfl, rfl, trivial, ?_⟩
  refine ⟨(y, x), rfl, rfl, rfl, rfl, rfl, rfl, rfl, rfl, rfl, rfl, rfl, rfl, rfl, rfl, rfl, rfl, rfl, rfl, rfl, rfl, rfl, rfl, trivial, ?_⟩
  refine br_iff.2 ⟨fun _ => ha, fun h => ?_⟩
  exact absurd h (by simpa using stale_tri x y (by simpa using hkk))
end Go.Proofs

namespace Go.Sy
open Go.Am Go.RowKit
universe u v

section
variable {H : Type} {enc : TypeId × Value → H} {P : Program} {w : World} {base : Nat} {spare : Nat → Bool} {held : Bool} {Fz : Nat → Option AO} {N : Nat}
/-- Cells that stand for values. -/
def Lies (Fz : Nat → Option AO) (N : Nat) (l : List SV) (cs : List Value) : Prop := l.length = cs.length ∧ ∀ (j : Nat) v u, l[j]? = some v → cs[j]? = some u → SimP Fz v (absV N u)
theorem Lies.nil : Lies Fz N [] [] := ⟨rfl, fun j v u h => by simp at h⟩
theorem Lies.cons {s : SV} {v : Value} {l : List SV} {m : List Value} (h : SimP Fz s (absV N v)) (t : Lies Fz N l m) : Lies Fz N (s :: l) (v :: m) := by
  refine ⟨by simp [t.1], fun i a b ha hb => ?_⟩
  cases i with
  | zero => simp at ha hb; subst ha; subst hb; exact h
  | succ i => exact t.2 i a b (by simpa using ha) (by simpa using hb)
theorem Lies.append {l l' : List SV} {m m' : List Value} (h : Lies Fz N l m) (h' : Lies Fz N l' m') : Lies Fz N (l ++ l') (m ++ m') := by
  refine ⟨by simp [h.1, h'.1], fun i a b ha hb => ?_⟩
  by_cases hi : i < l.length
  · rw [List.getElem?_append_left hi] at ha
    rw [List.getElem?_append_left (by rw [← h.1]; exact hi)] at hb
    exact h.2 i a b ha hb
  · rw [List.getElem?_append_right (by omega)] at ha
    rw [List.getElem?_append_right (by rw [← h.1]; omega), ← h.1] at hb
    exact h'.2 _ a b ha hb

/-- Whatever reads at a type is one of X. -/
structure Dec (P : Program) (w : World) (base : Nat) (spare : Nat → Bool) (held : Bool) {H : Type} (henc : TypeId × Value → H) (Fz : Nat → Option AO) (N : Nat) (t : TypeId) (X : Type) (enc : X → List SV) : Prop where
  one : ∀ fuel cs x, DataW.trod henc P w base spare held fuel t cs = some x → ∃ y : X, Lies Fz N (enc y) cs
variable (enc) in
abbrev Dec' (P : Program) (w : World) (base : Nat) (spare : Nat → Bool) (held : Bool) (Fz : Nat → Option AO) (N : Nat) (t : TypeId) (X : Type) (e : X → List SV) : Prop := Dec P w base spare held enc Fz N t X e
theorem Dec.bool {t : TypeId} (ht : P.underlying t = some .bool) : Dec' enc P w base spare held Fz N t Bool (fun b => [.bool b]) := by
  refine ⟨fun fuel cs x h => ?_⟩
  obtain ⟨b, rfl, _⟩ := DataW.trod_bool ht h
  exact ⟨b, .cons (.bool b) .nil⟩
theorem Dec.int {t : TypeId} {k : IntKind} (ht : P.underlying t = some (.int k)) : Dec' enc P w base spare held Fz N t Int (fun b => [.int k b]) := by
  refine ⟨fun fuel cs x h => ?_⟩
  obtain ⟨b, rfl, _⟩ := DataW.trod_int ht h
  exact ⟨b, .cons (.int k b) .nil⟩
theorem Dec.str {t : TypeId} (ht : P.underlying t = some .string) : Dec' enc P w base spare held Fz N t (List UInt8) (fun b => [.str b]) := by
  refine ⟨fun fuel cs x h => ?_⟩
  obtain ⟨s, rfl, _⟩ := DataW.trod_string ht h
  exact ⟨s.data.toList, .cons (.str _) .nil⟩
theorem Dec.map {t : TypeId} {X Y : Type} {e : X → List SV} {e' : Y → List SV} (h : Dec' enc P w base spare held Fz N t X e) (f : X → Y) (hf : ∀ x, e' (f x) = e x) : Dec' enc P w base spare held Fz N t Y e' := by
  refine ⟨fun fuel cs x hx => ?_⟩
  obtain ⟨y, hy⟩ := h.one fuel cs x hx
  exact ⟨f y, by rw [hf]; exact hy⟩
/-- Fields, one behind the other. -/
inductive Decs (P : Program) (w : World) (base : Nat) (spare : Nat → Bool) (held : Bool) {H : Type} (henc : TypeId × Value → H) (Fz : Nat → Option AO) (N : Nat) : Nat → List Field → (X : Type) → (X → List SV) → Prop
  | nil {o : Nat} : Decs P w base spare held henc Fz N o [] Unit (fun _ => [])
  | cons {o : Nat} {f : Field} {fs : List Field} {X Y : Type} {e : X → List SV} {e' : Y → List SV} (ho : f.offset = o) (h : Dec P w base spare held henc Fz N f.type X e) (t : Decs P w base spare held henc Fz N (o + P.cellsOf f.type) fs Y e') :
      Decs P w base spare held henc Fz N o (f :: fs) (X × Y) (fun y => e y.1 ++ e' y.2)
/-- The cells of fields. -/
def sumC (P : Program) : List Field → Nat
  | [] => 0
  | f :: fs => P.cellsOf f.type + sumC P fs
theorem Decs.run {o : Nat} {fs : List Field} {X : Type} {e : X → List SV} (h : Decs P w base spare held enc Fz N o fs X e) : ∀ (cs : List Value) (n : Nat), cs.length = o + sumC P fs →
    (∀ f ∈ fs, ∃ x, DataW.trod enc P w base spare held n f.type ((cs.drop f.offset).take (P.cellsOf f.type)) = some x) → ∃ y : X, Lies Fz N (e y) (cs.drop o) := by
  induction h with
  | nil =>
    intro cs n hl _
    refine ⟨(), ?_⟩
    simp only [sumC] at hl
    rw [List.drop_of_length_le (by omega)]
    exact .nil
  | @cons o f fs X Y e e' ho h t ih =>
    intro cs n hl hf
    simp only [sumC] at hl
    obtain ⟨x, hx⟩ := hf f List.mem_cons_self
    obtain ⟨y, hy⟩ := h.one n _ _ hx
    obtain ⟨z, hz⟩ := ih cs n (by omega) (fun g hg => hf g (List.mem_cons_of_mem _ hg))
    refine ⟨(y, z), ?_⟩
    have := hy.append hz
    rw [ho] at this
    rw [show List.drop o cs = List.take (P.cellsOf f.type) (List.drop o cs) ++ List.drop (o + P.cellsOf f.type) cs by rw [← List.drop_drop, List.take_append_drop]]
    exact this
theorem Dec.struct {t : TypeId} {fs : Array Field} {X : Type} {e : X → List SV} (ht : P.underlying t = some (.struct fs)) (hc : P.cellsOf t = sumC P fs.toList) (h : Decs P w base spare held enc Fz N 0 fs.toList X e) : Dec' enc P w base spare held Fz N t X e := by
  refine ⟨fun fuel cs x hx => ?_⟩
  obtain ⟨xs, n, _, _, hl, hn, hg⟩ := DataW.trod_struct ht hx
  have := h.run cs n (by rw [hl, hc]; simp) (fun f hf => by
    obtain ⟨i, hi⟩ := List.getElem?_of_mem hf
    have h1 := hg i f (by simpa using hi)
    have hlt : i < fs.size := by
      have := (List.getElem?_eq_some_iff.1 hi).1
      simpa using this
    rw [List.getElem?_eq_getElem (by omega)] at h1
    exact ⟨_, h1⟩)
  simpa using this
end
end Go.Sy
namespace Go.Sy
open Go.Am Go.RowKit
/-- A struct that came in. -/
theorem simA_agg {Fz : Nat → Option AO} {N : Nat} {l : List SV} {cs : Array Value} (h : Lies Fz N l cs.toList) : SimP Fz (.agg l) (absA N (.agg cs)) := by
  unfold absA
  refine .agg (by simpa using h.1) (fun i c v hc hv => ?_)
  rw [List.getElem?_map] at hv
  obtain ⟨u, hu, rfl⟩ := Option.map_eq_some_iff.1 hv
  exact h.2 i c u hc hu
end Go.Sy

