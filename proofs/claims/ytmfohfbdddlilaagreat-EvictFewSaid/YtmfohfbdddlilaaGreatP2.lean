/- An evaluator over symbolic values, proved sound over the model's machine, and its use at this seat; no condition. Part 2. -/
import Derived.Test.YtmfohfbdddlilaaGreatP1
set_option linter.unusedSimpArgs false
set_option linter.unusedVariables false
set_option linter.unusedSectionVars false
set_option linter.deprecated false
namespace Go.Sy
open Go.Am Go.RowKit
universe u v
variable [Inhabited DrP]

theorem look_cons {α : Type u} (k : Nat) (v : α) (l : List (Nat × α)) (n : Nat) : look ((k, v) :: l) n = if n = k then some v else look l n := by
  simp only [look]
  by_cases h : n = k
  · subst h; simp
  · rw [if_neg h, beq_ne (fun e => h e.symm)]; rfl
theorem SH.get_set (h : SH) (b p : Nat) (o : Option SO) : (h.set b o).get p = if p = b then o else h.get p := by
  obtain ⟨n, os⟩ := h
  simp only [SH.set, SH.get, look_cons]
  by_cases e : p = b
  · simp [e]; cases o <;> rfl
  · simp [e]
theorem SH.get_new (h : SH) (p : Nat) (o : SO) : (h.new o).get p = if p = h.next then some o else h.get p := by
  obtain ⟨n, os⟩ := h
  simp only [SH.new, SH.get, look_cons]
  by_cases e : p = n <;> simp [e]
theorem SH.next_set (h : SH) (b : Nat) (o : Option SO) : (h.set b o).next = h.next := by obtain ⟨n, os⟩ := h; rfl
theorem SH.next_new (h : SH) (o : SO) : (h.new o).next = h.next + 1 := by obtain ⟨n, os⟩ := h; rfl
theorem look_onH (e : Ev) (os : List (Nat × Option SO)) (p : Nat) : look (onH e os) p = (look os p).map fun o => o.map (SO.on e) := by
  induction os with
  | nil => rfl
  | cons x l ih =>
    obtain ⟨b, o⟩ := x
    cases o with
    | none => simp only [onH, look_cons, ih]; split <;> simp
    | some o => simp only [onH, look_cons, ih]; split <;> simp
theorem get_onH (e : Ev) (n : Nat) (os : List (Nat × Option SO)) (p : Nat) : (SH.mk n (onH e os)).get p = ((SH.mk n os).get p).map (SO.on e) := by
  simp only [SH.get, look_onH]
  cases h : look os p with
  | none => rfl
  | some o => cases o <;> rfl
theorem look_onF (e : Ev) (ts : Fr) (t : Nat) : look (onF e ts) t = (look ts t).map (SV.on e) := by
  induction ts with
  | nil => rfl
  | cons x l ih =>
    obtain ⟨b, v⟩ := x
    simp only [onF, look_cons, ih]
    split <;> simp

theorem FS.turns {C C' : Cx} {e : Ev} (ht : Turns C e C') {ts : Fr} {ta : T AV} (h : FS C ts ta) : FS C' (onF e ts) ta := by
  intro t s hs
  rw [look_onF] at hs
  obtain ⟨s0, h0, rfl⟩ := Option.map_eq_some_iff.1 hs
  exact (h t s0 h0).turns ht
theorem FS.le {C C' : Cx} (hc : C.le C') {ts : Fr} {ta : T AV} (h : FS C ts ta) : FS C' ts ta := fun t s hs => (h t s hs).le hc
theorem FS.log {C C' : Cx} {log : List Ev} (ht : Tr C log C') {ts : Fr} {ta : T AV} (h : FS C ts ta) : FS C' (logOn log ts) ta := by
  have key : ∀ (log : List Ev) (ts : Fr) (t : Nat), look (logOn log ts) t = (look ts t).map (onLog log) := by
    intro log
    induction log with
    | nil => intro ts t; simp [logOn]; cases look ts t <;> rfl
    | cons e l ih =>
      intro ts t
      simp only [logOn, ih, look_onF, Option.map_map]
      rfl
  intro t s hs
  rw [key] at hs
  obtain ⟨s0, h0, rfl⟩ := Option.map_eq_some_iff.1 hs
  exact ht.val _ _ (h t s0 h0)
theorem FS.put {C : Cx} {ts : Fr} {ta : T AV} (h : FS C ts ta) {t : Nat} {s : SV} {v : AV} (hv : SimV C s v) : FS C ((t, s) :: ts) (ta.set t (some v)) := by
  intro t' s' hs
  rw [look_cons] at hs
  rw [T.get_set]
  split at hs
  · rename_i e
    cases hs
    simpa [e] using hv
  · rename_i e
    simpa [e] using h t' s' hs

theorem SimL.le {C C' : Cx} (hc : C.le C') {l : List SV} {m : List AV} (h : SimL C l m) : SimL C' l m := ⟨h.1, fun i s v hs hv => (h.2 i s v hs hv).le hc⟩
theorem SimL.turns {C C' : Cx} {e : Ev} (ht : Turns C e C') {l : List SV} {m : List AV} (h : SimL C l m) : SimL C' (SV.onL e l) m := by
  rw [onL_eq]
  refine ⟨by simp [h.1], fun i s v hs hv => ?_⟩
  rw [List.getElem?_map] at hs
  obtain ⟨s0, h0, rfl⟩ := Option.map_eq_some_iff.1 hs
  exact (h.2 i s0 v h0 hv).turns ht

section
variable {tab : Tab} {C C' : Cx} {I : BI} {o : SO} {a a' : AH} {h : SH}
theorem SimO.congr (hg : a'.get I.β = a.get I.β) (ho : SimO tab C I o a) : SimO tab C I o a' := by
  cases o with
  | cells cs e =>
    simp only [SimO, hg] at ho ⊢
    exact ho
  | arr X L enc e =>
    simp only [SimO, hg] at ho ⊢
    exact ho
theorem SimO.le (hc : C.le C') (ho : SimO tab C I o a) : SimO tab C' I o a := by
  cases o with
  | cells cs e =>
    obtain ⟨h1, ca, sz, h2, h3, h4⟩ := ho
    exact ⟨h1, ca, sz, h2, h3.le hc, h4⟩
  | arr X L enc e =>
    obtain ⟨h1, h2, h3, h4, h5⟩ := ho
    refine ⟨h1, h2, h3, h4, ?_⟩
    cases hcap : I.cap with
    | none => rw [hcap] at h5; exact h5
    | some c =>
      rw [hcap] at h5
      obtain ⟨ca, ext, bk, g1, g2, g3, g4, g5⟩ := h5
      refine ⟨ca, ext, bk, g1, g2, g3, g4, fun i x j v hx hv => ?_⟩
      obtain ⟨u, k1, k2⟩ := g5 i x j v hx hv
      exact ⟨u, k1, k2.mono hc.2⟩
theorem SimO.turns {e : Ev} (ht : Turns C e C') (ho : SimO tab C I o a) : SimO tab C' I (o.on e) a := by
  cases o with
  | cells cs t =>
    obtain ⟨h1, ca, sz, h2, h3, h4⟩ := ho
    exact ⟨h1, ca, sz, h2, h3.turns ht, h4⟩
  | arr X L enc t =>
    obtain ⟨h1, h2, h3, h4, h5⟩ := ho
    refine ⟨h1, h2, h3, h4, ?_⟩
    cases hcap : I.cap with
    | none => rw [hcap] at h5; exact h5
    | some c =>
      rw [hcap] at h5
      obtain ⟨ca, ext, bk, g1, g2, g3, g4, g5⟩ := h5
      refine ⟨ca, ext, bk, g1, g2, g3, g4, fun i x j v hx hv => ?_⟩
      obtain ⟨u, k1, k2⟩ := g5 i x j v hx hv
      exact ⟨u, k1, k2.mono ht.1⟩
theorem SimO.live (ho : SimO tab C I o a) (hc : I.cap.isSome) : ∃ b, a.get I.β = some b := by
  cases o with
  | cells cs e =>
    obtain ⟨_, ca, sz, h2, _⟩ := ho
    exact ⟨_, h2⟩
  | arr X L enc e =>
    obtain ⟨_, _, _, _, h5⟩ := ho
    obtain ⟨c, hc⟩ := Option.isSome_iff_exists.1 hc
    rw [hc] at h5
    obtain ⟨ca, ext, bk, g1, _⟩ := h5
    exact ⟨_, g1⟩

open Classical in
noncomputable def Cx.put (C : Cx) (p : Nat) (I : BI) : Cx := { C with ρ := fun q => if q = p then some I else C.ρ q }
theorem Cx.put_same (C : Cx) (p : Nat) (I : BI) : (C.put p I).ρ p = some I := by simp [Cx.put]
theorem Cx.put_ne (C : Cx) {p q : Nat} (I : BI) (h : q ≠ p) : (C.put p I).ρ q = C.ρ q := by simp [Cx.put, h]

structure Grow (a a' : AH) : Prop where
  next : a.next ≤ a'.next
  old : ∀ i o, a'.get i = some o → (∃ o0, a.get i = some o0) ∨ a.next ≤ i
theorem Grow.refl (a : AH) : Grow a a := ⟨Nat.le_refl _, fun i o h => .inl ⟨o, h⟩⟩
theorem Grow.trans {a b c : AH} (h : Grow a b) (k : Grow b c) : Grow a c :=
  ⟨Nat.le_trans h.next k.next, fun i o hi => (k.old i o hi).elim (fun ⟨o', ho⟩ => h.old i o' ho) (fun hl => .inr (Nat.le_trans h.next hl))⟩
theorem Grow.new (a : AH) (o : AO) : Grow a (a.new o) := ⟨by simp, fun i o' hi => by
  rw [AH.get_new] at hi
  split at hi
  · rename_i e; exact .inr (by omega)
  · exact .inl ⟨o', hi⟩⟩

theorem HS.new (H : HS tab C h a) {ao : AO} {o : SO} (I : BI) (hI : I.β = a.next) (ho : C.le (C.put h.next I) → SimO tab (C.put h.next I) I o (a.new ao)) :
    C.le (C.put h.next I) ∧ HS tab (C.put h.next I) (h.new o) (a.new ao) := by
  have hle : C.le (C.put h.next I) := by
    refine ⟨fun p J hp => ?_, fun i o h => h⟩
    have := H.lt p J hp
    rw [Cx.put_ne _ _ (by omega)]; exact hp
  refine ⟨hle, ?_⟩
  have hold : ∀ p o', (h.new o).get p = some o' → p ≠ h.next → h.get p = some o' := by
    intro p o' hp hne; rw [SH.get_new, if_neg hne] at hp; exact hp
  have hne : ∀ p o', h.get p = some o' → p ≠ h.next := by
    intro p o' hp e
    obtain ⟨J, hJ, _⟩ := H.obj p o' hp
    have := H.lt p J hJ; omega
  have hblk : ∀ p o' J, h.get p = some o' → C.ρ p = some J → J.cap.isSome → J.β < a.next := by
    intro p o' J hp hJ hc
    obtain ⟨J', hJ', hs⟩ := H.obj p o' hp
    rw [hJ] at hJ'; cases hJ'
    obtain ⟨b, hb⟩ := hs.live hc
    exact H.wf _ _ hb
  refine ⟨?_, ?_, ?_, ?_, ?_, ?_⟩
  · intro p o' hp
    by_cases e : p = h.next
    · subst e
      rw [SH.get_new, if_pos rfl] at hp
      cases hp
      exact ⟨I, Cx.put_same _ _ _, ho hle⟩
    · have hp' := hold p o' hp e
      obtain ⟨J, hJ, hs⟩ := H.obj p o' hp'
      refine ⟨J, hle.1 _ _ hJ, ?_⟩
      have hs' := hs.le hle
      by_cases hc : J.cap.isSome
      · refine hs'.congr ?_
        have := hblk p o' J hp' hJ hc
        rw [AH.get_new, if_neg (by omega)]
      · cases o' with
        | cells cs t => exact absurd hs.1 hc
        | arr X L enc t =>
          obtain ⟨h1, h2, h3, h4, h5⟩ := hs'
          refine ⟨h1, h2, h3, h4, ?_⟩
          cases hcap : J.cap with
          | none => rw [hcap] at h5; exact h5
          | some c => rw [hcap] at hc; simp at hc
  · intro p q o1 o2 J J' hp hq hJ hJ' hc hc' e
    by_cases e1 : p = h.next
    · by_cases e2 : q = h.next
      · rw [e1, e2]
      · exfalso
        subst e1
        rw [Cx.put_same] at hJ; cases hJ
        rw [Cx.put_ne _ _ e2] at hJ'
        have := hblk q o2 J' (hold q o2 hq e2) hJ' hc'
        omega
    · rw [Cx.put_ne _ _ e1] at hJ
      by_cases e2 : q = h.next
      · exfalso
        subst e2
        rw [Cx.put_same] at hJ'; cases hJ'
        have := hblk p o1 J (hold p o1 hp e1) hJ hc
        omega
      · rw [Cx.put_ne _ _ e2] at hJ'
        exact H.inj p q o1 o2 J J' (hold p o1 hp e1) (hold q o2 hq e2) hJ hJ' hc hc' e
  · intro i o' hi
    have := H.fz i o' hi
    have hl := H.wf _ _ this
    rw [AH.get_new, if_neg (by omega)]; exact this
  · intro p o' J hp hJ hc
    by_cases e : p = h.next
    · subst e
      rw [Cx.put_same] at hJ; cases hJ
      rw [hI]
      cases hz : (C.put h.next I).Fz a.next with
      | none => rfl
      | some o2 =>
        have := H.wf _ _ (H.fz _ _ hz)
        omega
    · rw [Cx.put_ne _ _ e] at hJ
      exact H.dj p o' J (hold p o' hp e) hJ hc
  · intro p J hJ
    rw [SH.next_new]
    by_cases e : p = h.next
    · omega
    · rw [Cx.put_ne _ _ e] at hJ
      have := H.lt p J hJ; omega
  · intro i o' hi
    rw [AH.get_new] at hi
    simp only [AH.next_new]
    split at hi
    · omega
    · have := H.wf i o' hi; omega
theorem HS.new0 (H : HS tab C h a) {o : SO} (I : BI) (hI : I.cap = none) (ho : C.le (C.put h.next I) → SimO tab (C.put h.next I) I o a) :
    C.le (C.put h.next I) ∧ HS tab (C.put h.next I) (h.new o) a := by
  have hle : C.le (C.put h.next I) := by
    refine ⟨fun p J hp => ?_, fun i o h => h⟩
    have := H.lt p J hp
    rw [Cx.put_ne _ _ (by omega)]; exact hp
  refine ⟨hle, ?_⟩
  have hold : ∀ p o', (h.new o).get p = some o' → p ≠ h.next → h.get p = some o' := by
    intro p o' hp hne; rw [SH.get_new, if_neg hne] at hp; exact hp
  refine ⟨?_, ?_, H.fz, ?_, ?_, H.wf⟩
  · intro p o' hp
    by_cases e : p = h.next
    · subst e
      rw [SH.get_new, if_pos rfl] at hp
      cases hp
      exact ⟨I, Cx.put_same _ _ _, ho hle⟩
    · obtain ⟨J, hJ, hs⟩ := H.obj p o' (hold p o' hp e)
      exact ⟨J, hle.1 _ _ hJ, hs.le hle⟩
  · intro p q o1 o2 J J' hp hq hJ hJ' hc hc' e
    by_cases e1 : p = h.next
    · subst e1
      rw [Cx.put_same] at hJ; cases hJ
      rw [hI] at hc; simp at hc
    · rw [Cx.put_ne _ _ e1] at hJ
      by_cases e2 : q = h.next
      · subst e2
        rw [Cx.put_same] at hJ'; cases hJ'
        rw [hI] at hc'; simp at hc'
      · rw [Cx.put_ne _ _ e2] at hJ'
        exact H.inj p q o1 o2 J J' (hold p o1 hp e1) (hold q o2 hq e2) hJ hJ' hc hc' e
  · intro p o' J hp hJ hc
    by_cases e : p = h.next
    · subst e
      rw [Cx.put_same] at hJ; cases hJ
      rw [hI] at hc; simp at hc
    · rw [Cx.put_ne _ _ e] at hJ
      exact H.dj p o' J (hold p o' hp e) hJ hc
  · intro p J hJ
    rw [SH.next_new]
    by_cases e : p = h.next
    · omega
    · rw [Cx.put_ne _ _ e] at hJ
      have := H.lt p J hJ; omega

theorem HS.renew (H : HS tab C h a) {d : Nat} {o0 : SO} {I0 : BI} (hd : h.get d = some o0) (hI0 : C.ρ d = some I0) (I : BI) {o : SO}
    (hold : ∀ i b, (I0.cap.isSome → i ≠ I0.β) → a.get i = some b → a'.get i = some b) (hwf : ∀ i b, a'.get i = some b → i < a'.next)
    (hnew : I.cap.isSome → a.next ≤ I.β ∨ (I0.cap.isSome ∧ I.β = I0.β)) (hn : a.next ≤ a'.next) (ho : Turns C (.kill d) (C.put d I) → SimO tab (C.put d I) I o a') :
    Turns C (.kill d) (C.put d I) ∧ HS tab (C.put d I) ⟨h.next, (d, some o) :: onH (.kill d) h.os⟩ a' := by
  have hT : Turns C (.kill d) (C.put d I) := ⟨fun i o h => h, fun p J hp hJ => by rw [Cx.put_ne _ _ hp]; exact hJ⟩
  refine ⟨hT, ?_⟩
  have hget : ∀ p, (SH.mk h.next ((d, some o) :: onH (.kill d) h.os)).get p = if p = d then some o else (h.get p).map (SO.on (.kill d)) := by
    intro p
    have h1 := get_onH (.kill d) h.next h.os p
    simp only [SH.get, look_cons] at h1 ⊢
    by_cases e : p = d
    · simp [e]
    · simp only [if_neg e]
      exact h1
  have hback : ∀ p o', (SH.mk h.next ((d, some o) :: onH (.kill d) h.os)).get p = some o' → p ≠ d → ∃ o1, h.get p = some o1 ∧ o' = o1.on (.kill d) := by
    intro p o' hp hne
    rw [hget, if_neg hne] at hp
    obtain ⟨o1, h1, h2⟩ := Option.map_eq_some_iff.1 hp
    exact ⟨o1, h1, h2.symm⟩
  have hlive : ∀ p o1 J, h.get p = some o1 → C.ρ p = some J → SimO tab C J o1 a := by
    intro p o1 J hp hJ
    obtain ⟨J', hJ', hs⟩ := H.obj p o1 hp
    rw [hJ] at hJ'; cases hJ'
    exact hs
  have hne : ∀ p o1 J, h.get p = some o1 → C.ρ p = some J → J.cap.isSome → p ≠ d → (I0.cap.isSome → J.β ≠ I0.β) := by
    intro p o1 J hp hJ hc hpd hc0 e
    exact hpd (H.inj p d o1 o0 J I0 hp hd hJ hI0 hc hc0 e)
  refine ⟨?_, ?_, ?_, ?_, ?_, hwf⟩
  · intro p o' hp
    by_cases e : p = d
    · subst e
      rw [hget, if_pos rfl] at hp
      cases hp
      exact ⟨I, Cx.put_same _ _ _, ho hT⟩
    · obtain ⟨o1, h1, rfl⟩ := hback p o' hp e
      obtain ⟨J, hJ, hs⟩ := H.obj p o1 h1
      refine ⟨J, hT.2 p J e hJ, ?_⟩
      have hs' := hs.turns hT
      by_cases hc : J.cap.isSome
      · obtain ⟨b, hb⟩ := hs.live hc
        exact hs'.congr ((hold _ _ (hne p o1 J h1 hJ hc e) hb).trans hb.symm)
      · cases o1 with
        | cells cs t => exact absurd hs.1 hc
        | arr X L enc t =>
          obtain ⟨g1, g2, g3, g4, g5⟩ := hs'
          refine ⟨g1, g2, g3, g4, ?_⟩
          cases hcap : J.cap with
          | none => rw [hcap] at g5; exact g5
          | some c => rw [hcap] at hc; simp at hc
  · have key : ∀ q o2 J, (SH.mk h.next ((d, some o) :: onH (.kill d) h.os)).get q = some o2 → q ≠ d → (C.put d I).ρ q = some J → J.cap.isSome → I.cap.isSome → I.β ≠ J.β := by
      intro q o2 J hq e2 hJ' hc' hc e
      rw [Cx.put_ne _ _ e2] at hJ'
      obtain ⟨o3, h3, rfl⟩ := hback q o2 hq e2
      obtain ⟨b, hb⟩ := (hlive q o3 J h3 hJ').live hc'
      have hlt := H.wf _ _ hb
      rcases hnew hc with hge | ⟨h0, he⟩
      · omega
      · exact hne q o3 J h3 hJ' hc' e2 h0 (by rw [← e, he])
    intro p q o1 o2 J J' hp hq hJ hJ' hc hc' e
    by_cases e1 : p = d
    · by_cases e2 : q = d
      · rw [e1, e2]
      · exfalso
        subst e1
        rw [Cx.put_same] at hJ; cases hJ
        exact key q o2 J' hq e2 hJ' hc' hc e
    · by_cases e2 : q = d
      · exfalso
        subst e2
        rw [Cx.put_same] at hJ'; cases hJ'
        exact key p o1 J hp e1 hJ hc hc' e.symm
      · rw [Cx.put_ne _ _ e1] at hJ
        rw [Cx.put_ne _ _ e2] at hJ'
        obtain ⟨o3, h3, _⟩ := hback p o1 hp e1
        obtain ⟨o4, h4, _⟩ := hback q o2 hq e2
        exact H.inj p q o3 o4 J J' h3 h4 hJ hJ' hc hc' e
  · intro i b hi
    have h1 := H.fz i b hi
    refine hold i b (fun hc e => ?_) h1
    subst e
    have := H.dj d o0 I0 hd hI0 hc
    rw [show C.Fz I0.β = some b from hi] at this; cases this
  · intro p o' J hp hJ hc
    by_cases e : p = d
    · subst e
      rw [Cx.put_same] at hJ; cases hJ
      rcases hnew hc with hge | ⟨h0, he⟩
      · cases hz : C.Fz I.β with
        | none => exact hz
        | some o2 =>
          have := H.wf _ _ (H.fz _ _ hz)
          omega
      · rw [he]; exact H.dj p o0 I0 hd hI0 h0
    · rw [Cx.put_ne _ _ e] at hJ
      obtain ⟨o3, h3, _⟩ := hback p o' hp e
      exact H.dj p o3 J h3 hJ hc
  · intro p J hJ
    by_cases e : p = d
    · subst e
      exact H.lt p I0 hI0
    · rw [Cx.put_ne _ _ e] at hJ
      exact H.lt p J hJ
end
end Go.Sy

namespace Go.Sy
open Go.Am Go.RowKit
universe u v
variable [Inhabited DrP]

section
variable {tab : Tab} {C C' : Cx} {I : BI} {o : SO} {a a' : AH} {h : SH}

theorem HS.at_ (H : HS tab C h a) {p : Nat} {o : SO} {I : BI} (hp : h.get p = some o) (hI : C.ρ p = some I) : SimO tab C I o a := by
  obtain ⟨J, hJ, hs⟩ := H.obj p o hp
  rw [hI] at hJ; cases hJ
  exact hs

theorem HS.mod (H : HS tab C h a) {d : Nat} {o0 : SO} {I0 : BI} (hd : h.get d = some o0) (hI0 : C.ρ d = some I0) (hb : I0.cap.isSome) {o : SO} {ao : AO} (ho : SimO tab C I0 o (a.set I0.β ao)) :
    HS tab C (h.set d (some o)) (a.set I0.β ao) := by
  have hback : ∀ p o', (h.set d (some o)).get p = some o' → p ≠ d → h.get p = some o' := by
    intro p o' hp hne; rw [SH.get_set, if_neg hne] at hp; exact hp
  have hany : ∀ p o', (h.set d (some o)).get p = some o' → ∃ o1, h.get p = some o1 := by
    intro p o' hp
    by_cases e : p = d
    · exact ⟨o0, e ▸ hd⟩
    · exact ⟨o', hback p o' hp e⟩
  have hlt := H.wf _ _ ((H.at_ hd hI0).live hb).choose_spec
  refine ⟨?_, ?_, ?_, ?_, ?_, ?_⟩
  · intro p o' hp
    by_cases e : p = d
    · subst e
      rw [SH.get_set, if_pos rfl] at hp
      cases hp
      exact ⟨I0, hI0, ho⟩
    · have hp' := hback p o' hp e
      obtain ⟨J, hJ, hs⟩ := H.obj p o' hp'
      refine ⟨J, hJ, ?_⟩
      by_cases hc : J.cap.isSome
      · refine hs.congr ?_
        rw [AH.get_set, if_neg]
        intro e'
        exact e (H.inj p d o' o0 J I0 hp' hd hJ hI0 hc hb e')
      · cases o' with
        | cells cs t => exact absurd hs.1 hc
        | arr X L enc t =>
          obtain ⟨g1, g2, g3, g4, g5⟩ := hs
          refine ⟨g1, g2, g3, g4, ?_⟩
          cases hcap : J.cap with
          | none => rw [hcap] at g5; exact g5
          | some c => rw [hcap] at hc; simp at hc
  · intro p q o1 o2 J J' hp hq hJ hJ' hc hc' e
    obtain ⟨o3, h3⟩ := hany p o1 hp
    obtain ⟨o4, h4⟩ := hany q o2 hq
    exact H.inj p q o3 o4 J J' h3 h4 hJ hJ' hc hc' e
  · intro i b hi
    have h1 := H.fz i b hi
    rw [AH.get_set, if_neg]
    · exact h1
    · intro e
      subst e
      have := H.dj d o0 I0 hd hI0 hb
      rw [hi] at this; cases this
  · intro p o' J hp hJ hc
    obtain ⟨o3, h3⟩ := hany p o' hp
    exact H.dj p o3 J h3 hJ hc
  · intro p J hJ
    rw [SH.next_set]
    exact H.lt p J hJ
  · intro i b hi
    rw [AH.get_set] at hi
    simp only [AH.next_set]
    split at hi
    · rename_i e; rw [e]; exact hlt
    · exact H.wf i b hi
theorem HS.del (H : HS tab C h a) (d : Nat) : HS tab C (h.set d none) a := by
  have hback : ∀ p o', (h.set d none).get p = some o' → h.get p = some o' := by
    intro p o' hp
    rw [SH.get_set] at hp
    split at hp
    · cases hp
    · exact hp
  refine ⟨fun p o' hp => H.obj p o' (hback p o' hp), fun p q o1 o2 J J' hp hq => H.inj p q o1 o2 J J' (hback p o1 hp) (hback q o2 hq), H.fz, fun p o' J hp => H.dj p o' J (hback p o' hp), fun p J hJ => ?_, H.wf⟩
  rw [SH.next_set]; exact H.lt p J hJ

open Classical in
noncomputable def Cx.freeze (C : Cx) (β : Nat) (p : Prop) (o : Option AO) : Cx := { C with Fz := fun i => if p ∧ i = β then o else C.Fz i }

theorem HS.freeze (H : HS tab C h a) {d : Nat} {o0 : SO} {I0 : BI} (hd : h.get d = some o0) (hI0 : C.ρ d = some I0) {e : Ev} (he : ∀ C' : Cx, (∀ i o, C.Fz i = some o → C'.Fz i = some o) → (∀ p I, C.ρ p = some I → C'.ρ p = some I) →
      (I0.cap.isSome → C'.Fz I0.β = a.get I0.β) → Turns C e C') :
    ∃ C', Turns C e C' ∧ HS tab C' ⟨h.next, (d, none) :: onH e h.os⟩ a ∧ (I0.cap.isSome → C'.Fz I0.β = a.get I0.β) ∧ C'.ρ = C.ρ := by
  classical
  let C' : Cx := C.freeze I0.β (I0.cap.isSome = true) (a.get I0.β)
  have hfz : ∀ i o, C.Fz i = some o → C'.Fz i = some o := by
    intro i o hi
    simp only [C', Cx.freeze]
    split
    · rename_i hc
      obtain ⟨hb, rfl⟩ := hc
      have := H.dj d o0 I0 hd hI0 hb
      rw [hi] at this; cases this
    · exact hi
  have hfb : I0.cap.isSome → C'.Fz I0.β = a.get I0.β := by
    intro hb
    simp [C', Cx.freeze, hb]
  have hback' : ∀ i o, C'.Fz i = some o → C.Fz i = some o ∨ (I0.cap.isSome ∧ i = I0.β ∧ a.get i = some o) := by
    intro i o hi
    simp only [C', Cx.freeze] at hi
    split at hi
    · rename_i hc
      exact .inr ⟨hc.1, hc.2, by rw [hc.2]; exact hi⟩
    · exact .inl hi
  have hT := he C' hfz (fun p I h => h) hfb
  refine ⟨C', hT, ?_, hfb, rfl⟩
  have hget : ∀ p, (SH.mk h.next ((d, none) :: onH e h.os)).get p = if p = d then none else (h.get p).map (SO.on e) := by
    intro p
    have h1 := get_onH e h.next h.os p
    simp only [SH.get, look_cons] at h1 ⊢
    by_cases e : p = d
    · simp [e]
    · simp only [if_neg e]
      exact h1
  have hback : ∀ p o', (SH.mk h.next ((d, none) :: onH e h.os)).get p = some o' → p ≠ d ∧ ∃ o1, h.get p = some o1 ∧ o' = o1.on e := by
    intro p o' hp
    rw [hget] at hp
    split at hp
    · cases hp
    · rename_i hne
      obtain ⟨o1, h1, h2⟩ := Option.map_eq_some_iff.1 hp
      exact ⟨hne, o1, h1, h2.symm⟩
  refine ⟨?_, ?_, ?_, ?_, H.lt, H.wf⟩
  · intro p o' hp
    obtain ⟨hne, o1, h1, rfl⟩ := hback p o' hp
    obtain ⟨J, hJ, hs⟩ := H.obj p o1 h1
    exact ⟨J, hJ, hs.turns hT⟩
  · intro p q o1 o2 J J' hp hq hJ hJ' hc hc' e
    obtain ⟨_, o3, h3, _⟩ := hback p o1 hp
    obtain ⟨_, o4, h4, _⟩ := hback q o2 hq
    exact H.inj p q o3 o4 J J' h3 h4 hJ hJ' hc hc' e
  · intro i b hi
    rcases hback' i b hi with h1 | ⟨_, _, h1⟩
    · exact H.fz i b h1
    · exact h1
  · intro p o' J hp hJ hc
    obtain ⟨hne, o3, h3, _⟩ := hback p o' hp
    cases hz : C'.Fz J.β with
    | none => rfl
    | some b =>
      rcases hback' _ b hz with h1 | ⟨hb, h1, _⟩
      · have := H.dj p o3 J h3 hJ hc
        rw [h1] at this; cases this
      · exact absurd (H.inj p d o3 o0 J I0 h3 hd hJ hI0 hc hb h1) hne

theorem frz_turns (H : HS tab C h a) {d : Nat} {X : Type} {L : List X} {enc : X → List SV} {t : TypeId} {I0 : BI} (hd : h.get d = some (.arr X L enc t)) (hI0 : C.ρ d = some I0) (C' : Cx)
    (hfz : ∀ i o, C.Fz i = some o → C'.Fz i = some o) (hρ : ∀ p I, C.ρ p = some I → C'.ρ p = some I) (hb : I0.cap.isSome → C'.Fz I0.β = a.get I0.β) : Turns C (.frz d X L enc) C' := by
  refine ⟨hfz, fun p I _ h => hρ p I h, fun I hI => ?_⟩
  rw [hI0] at hI; cases hI
  obtain ⟨g1, g2, g3, g4, g5⟩ := H.at_ hd hI0
  constructor
  · intro v hv
    cases hv with
    | pure h => cases h
    | own0 hI hc =>
      rw [hI0] at hI; cases hI
      rw [hc] at g5
      exact .lst0 g5 (.inl rfl)
    | own hI hc =>
      rw [hI0] at hI; cases hI
      rw [hc] at g5
      obtain ⟨ca, ext, bk, k1, k2, k3, k4, k5⟩ := g5
      rw [g3]
      refine .lst I0.β 0 _ ca t I0.sz ext bk (fun i j => (ca[0 + i * I0.sz + j]?).getD (.tup [])) (.of (by rw [hb (by simp [hc]), k1])) g2 (by omega) g4 ?_ ?_ ?_
      · rcases k4 with ⟨rfl, rfl⟩ | ⟨rfl, h0⟩
        · exact ⟨rfl, by simp⟩
        · simp [capOK, h0]
      · intro i x j v hx hv
        obtain ⟨u, k6, _⟩ := k5 i x j v hx hv
        rw [Nat.zero_add, k6]; rfl
      · intro i x j v hx hv
        obtain ⟨u, k6, k7⟩ := k5 i x j v hx hv
        rw [Nat.zero_add, k6]; exact k7.mono hfz
  · intro i off v x hx hv
    cases hv with
    | pure h => cases h
    | eptr hI hc =>
      rw [hI0] at hI; cases hI
      obtain ⟨c, hc'⟩ := Option.isSome_iff_exists.1 hc
      rw [hc'] at g5
      obtain ⟨ca, ext, bk, k1, k2, k3, k4, k5⟩ := g5
      refine .rptr I0.β (i * I0.sz) ca t I0.sz ext bk (fun j => (ca[i * I0.sz + j]?).getD (.tup [])) (by rw [hb hc, k1]) ?_ ?_ ?_
      · have hlt := (List.getElem?_eq_some_iff.1 hx).1
        rw [k3, g4 i x hx]
        calc i * I0.sz + I0.sz = (i + 1) * I0.sz := by rw [Nat.add_mul, Nat.one_mul]
          _ ≤ L.length * I0.sz := Nat.mul_le_mul_right _ hlt
      · intro j v hv
        obtain ⟨u, k6, _⟩ := k5 i x j v hx hv
        rw [k6]; rfl
      · intro j v hv
        obtain ⟨u, k6, k7⟩ := k5 i x j v hx hv
        rw [k6]; exact k7.mono hfz
theorem kill_turns {d : Nat} (C' : Cx) (hfz : ∀ i o, C.Fz i = some o → C'.Fz i = some o) (hρ : ∀ p I, C.ρ p = some I → C'.ρ p = some I) : Turns C (.kill d) C' := ⟨hfz, fun p I _ h => hρ p I h⟩
end

def Keep (C : Cx) (h : SH) (a : AH) (new : List Ev) (C' : Cx) (h' : SH) (a' : AH) : Prop := ∀ p o I, h.get p = some o → C.ρ p = some I → I.cap.isSome → p ∉ modded new →
  a'.get I.β = a.get I.β ∧ ((∃ o', h'.get p = some o' ∧ C'.ρ p = some I) ∨ ∃ b, C'.Fz I.β = some b)
theorem Keep.same (C : Cx) (h : SH) (a : AH) (new : List Ev) : Keep C h a new C h a := fun _ o _ hp hI _ _ => ⟨rfl, .inl ⟨o, hp, hI⟩⟩
theorem Keep.new {tab : Tab} {C C' : Cx} {h h' : SH} {a : AH} (H : HS tab C h a) (o : AO) (new : List Ev) (hle : C.le C') (hh : ∀ p o, h.get p = some o → ∃ o', h'.get p = some o') : Keep C h a new C' h' (a.new o) := by
  intro p o' I hp hI hc _
  obtain ⟨b, hb⟩ := (H.at_ hp hI).live hc
  have := H.wf _ _ hb
  obtain ⟨o2, h2⟩ := hh p o' hp
  exact ⟨by rw [AH.get_new, if_neg (by omega)], .inl ⟨o2, h2, hle.1 _ _ hI⟩⟩
theorem new_keeps {tab : Tab} {C : Cx} {h : SH} {a : AH} (H : HS tab C h a) (o : SO) : ∀ p o', h.get p = some o' → ∃ o2, (h.new o).get p = some o2 := by
  intro p o' hp
  obtain ⟨I, hI, _⟩ := H.obj p o' hp
  have := H.lt p I hI
  exact ⟨o', by rw [SH.get_new, if_neg (by omega)]; exact hp⟩
structure Res (tab : Tab) (C : Cx) (s : St) (ta : T AV) (a : AH) (sv : SV) (s' : St) (v : AV) (a' : AH) : Prop where
  ex : ∃ C' new, s'.log = s.log ++ new ∧ Tr C new C' ∧ SimV C' sv v ∧ HS tab C' s'.h a' ∧ FS C' s'.ts ta ∧ Keep C s.h a new C' s'.h a'
  grow : Grow a a'
theorem Res.same {tab : Tab} {C : Cx} {s : St} {ta : T AV} {a : AH} {sv : SV} {v : AV} (hF : FS C s.ts ta) (H : HS tab C s.h a) (hv : SimV C sv v) : Res tab C s ta a sv s v a :=
  ⟨⟨C, [], by simp, Tr.refl C, hv, H, hF, Keep.same _ _ _ _⟩, Grow.refl a⟩
def Stays (C : Cx) (h : SH) (a : AH) (C1 : Cx) (h1 : SH) : Prop := ∀ p o I, h.get p = some o → C.ρ p = some I → I.cap.isSome → (∃ o', h1.get p = some o' ∧ C1.ρ p = some I) ∨ ∃ b, a.get I.β = some b ∧ C1.Fz I.β = some b
theorem Stays.refl (C : Cx) (h : SH) (a : AH) : Stays C h a C h := fun p o I hp hI _ => .inl ⟨o, hp, hI⟩
theorem Stays.trans {C C1 C2 : Cx} {h h1 h2 : SH} {a : AH} (k : Stays C h a C1 h1) (k' : Stays C1 h1 a C2 h2) (hf : ∀ i o, C1.Fz i = some o → C2.Fz i = some o) : Stays C h a C2 h2 := by
  intro p o I hp hI hc
  rcases k p o I hp hI hc with ⟨o', h1, h2⟩ | ⟨b, h1, h2⟩
  · exact k' p o' I h1 h2 hc
  · exact .inr ⟨b, h1, hf _ _ h2⟩
theorem Stays.keep {C C1 : Cx} {h h1 : SH} {a : AH} (k : Stays C h a C1 h1) (new : List Ev) : Keep C h a new C1 h1 a :=
  fun p o I hp hI hc _ => ⟨rfl, (k p o I hp hI hc).imp id (fun ⟨b, _, h⟩ => ⟨b, h⟩)⟩
theorem St.frz_ok {tab : Tab} {C : Cx} {s : St} {ta : T AV} {a : AH} (hF : FS C s.ts ta) (H : HS tab C s.h a) {d : Nat} {X : Type} {L : List X} {enc : X → List SV} {t : TypeId} (hd : s.h.get d = some (.arr X L enc t)) :
    ∃ C', ((s.ev (.frz d X L enc)).del d).log = s.log ++ [.frz d X L enc] ∧ Tr C [.frz d X L enc] C' ∧ HS tab C' ((s.ev (.frz d X L enc)).del d).h a ∧ FS C' ((s.ev (.frz d X L enc)).del d).ts ta ∧
      (∀ v, SimV C (.own d) v → SimP C'.Fz (.lst X L enc) v) ∧ Stays C s.h a C' ((s.ev (.frz d X L enc)).del d).h := by
  obtain ⟨ts, ⟨n, os⟩, log⟩ := s
  obtain ⟨I, hI, ho⟩ := H.obj d _ hd
  obtain ⟨C', hT, H', hfb, hρ⟩ := H.freeze hd hI (frz_turns H hd hI)
  refine ⟨C', rfl, hT.tr, H', hF.turns hT, (hT.2.2 I hI).1, ?_⟩
  intro p o J hp hJ hc
  by_cases e : p = d
  · subst e
    rw [hI] at hJ; cases hJ
    obtain ⟨b, hb⟩ := (H.at_ hp hI).live hc
    exact .inr ⟨b, hb, by rw [hfb hc, hb]⟩
  · refine .inl ⟨o.on (.frz d X L enc), ?_, by rw [hρ]; exact hJ⟩
    simp only [St.ev, St.del, SH.get_set, if_neg e]
    rw [get_onH, hp]; rfl
end Go.Sy

namespace Go.Sy
open Go.Am Go.RowKit
universe u v
variable [Inhabited DrP]

theorem rb {α β : Type} {x : R α} {a : α} (h : x = .ok a) (f : α → R β) : (x >>= f) = f a := by rw [h]; rfl
theorem ro {α : Type} {s : String} {x : Option α} {a : α} (h : x = some a) : R.of s x = .ok a := by rw [h]; rfl
theorem rc {s : String} {b : Bool} (h : b = true) : R.check s b = .ok () := by rw [h]; rfl
theorem so_ok {α : Type u} {x : Option α} {k : α → Prop} (h : so x k) : ∃ a, x = some a ∧ k a := by
  cases x with
  | none => exact h.elim
  | some a => exact ⟨a, rfl, h⟩
theorem ck_ok {b : Bool} {p : Prop} (h : ck b p) : b = true ∧ p := by
  cases b with
  | false => exact h.elim
  | true => exact ⟨rfl, h⟩
theorem br_ok {b : Bool} {p q : Prop} (h : br b p q) : (b = true ∧ p) ∨ (b = false ∧ q) := by
  cases b with
  | false => exact .inr ⟨rfl, h⟩
  | true => exact .inl ⟨rfl, h⟩
theorem mapO_ok {α : Type u} {β : Type v} {f : α → Option β} : ∀ {l : List α} {m : List β}, mapO f l = some m → l.length = m.length ∧ ∀ (i : Nat) a b, l[i]? = some a → m[i]? = some b → f a = some b := by
  intro l
  induction l with
  | nil => intro m h; simp only [mapO, Option.some.injEq] at h; subst h; exact ⟨rfl, fun i a b h => by simp at h⟩
  | cons x l ih =>
    intro m h
    simp only [mapO] at h
    split at h
    · rename_i y m' hy hm
      cases h
      obtain ⟨h1, h2⟩ := ih hm
      refine ⟨by simp [h1], fun i a b ha hb => ?_⟩
      cases i with
      | zero => simp at ha hb; subst ha; subst hb; exact hy
      | succ i => exact h2 i a b (by simpa using ha) (by simpa using hb)
    · cases h

section
variable {tab : Tab} {C : Cx}
theorem ofCellS_ok {v : Value} {s : SV} (h : ofCellS v = some s) : SimV C s (ofCell v) := by
  unfold ofCellS at h
  split at h <;> cases h <;> simp only [ofCell] <;> exact .pure (by constructor)
theorem ofConstS_ok {v : Value} {s : SV} (h : ofConstS v = some s) : SimV C s (ofConst v) := by
  unfold ofConstS at h
  split at h
  · rename_i cs
    obtain ⟨l, hl, rfl⟩ := Option.map_eq_some_iff.1 h
    obtain ⟨h1, h2⟩ := mapO_ok hl
    refine .agg (by simp [← h1]) (fun i c v hc hv => ?_)
    rw [List.getElem?_map] at hv
    obtain ⟨w, hw, rfl⟩ := Option.map_eq_some_iff.1 hv
    exact ofCellS_ok (h2 i w c hw hc)
  · rename_i cs
    obtain ⟨l, hl, rfl⟩ := Option.map_eq_some_iff.1 h
    obtain ⟨h1, h2⟩ := mapO_ok hl
    refine .tup (by simp [← h1]) (fun i c v hc hv => ?_)
    rw [List.getElem?_map] at hv
    obtain ⟨w, hw, rfl⟩ := Option.map_eq_some_iff.1 hv
    exact ofCellS_ok (h2 i w c hw hc)
  · rename_i h1 h2
    have : ofConst v = ofCell v := by
      cases v with
      | agg cs => exact absurd rfl (h1 cs)
      | tuple cs => exact absurd rfl (h2 cs)
      | _ => rfl
    rw [this]
    exact ofCellS_ok h
theorem ofAV_ok {v : AV} {s : SV} (h : ofAV v = some s) : SimV C s v := by
  unfold ofAV at h
  split at h <;> cases h <;> exact .pure (by constructor)
theorem sev_ok {ts : Fr} {ta : T AV} (hF : FS C ts ta) {x : Operand} {s : SV} (h : sev ts x = some s) : ∃ v, ev ta x = .ok v ∧ SimV C s v := by
  cases x with
  | tmp t => exact ⟨_, rfl, hF t s h⟩
  | const v => exact ⟨_, rfl, ofConstS_ok h⟩
  | func f =>
    simp only [sev, Option.some.injEq] at h
    subst h
    exact ⟨_, rfl, .fn rfl rfl (fun i x u hx => by simp at hx) (fun i x u hx => by simp at hx)⟩
  | global g => cases h
theorem sevs_ok {ts : Fr} {ta : T AV} (hF : FS C ts ta) : ∀ {l : List Operand} {m : List SV}, sevs ts l = some m → ∃ vs, evs ta l = .ok vs ∧ SimL C m vs := by
  intro l
  induction l with
  | nil => intro m h; simp only [sevs, mapO, Option.some.injEq] at h; subst h; exact ⟨[], rfl, SimL.nil⟩
  | cons x l ih =>
    intro m h
    simp only [sevs, mapO] at h
    split at h
    · rename_i y m' hy hm
      cases h
      obtain ⟨v, hv, h1⟩ := sev_ok hF hy
      obtain ⟨vs, hvs, h2⟩ := ih hm
      refine ⟨v :: vs, ?_, SimL.cons h1 h2⟩
      simp only [evs]
      rw [rb hv, rb hvs]
    · cases h

theorem SimL.get {cs : List SV} {ca : List AV} (h : SimL C cs ca) {i : Nat} {s : SV} (hs : cs[i]? = some s) : ∃ v, ca[i]? = some v ∧ SimV C s v := by
  have hlt : i < ca.length := by rw [← h.1]; exact (List.getElem?_eq_some_iff.1 hs).1
  exact ⟨ca[i], List.getElem?_eq_getElem hlt, h.2 i s _ hs (List.getElem?_eq_getElem hlt)⟩
theorem partS_ok {cs : List SV} {ca : List AV} (hc : SimL C cs ca) {t off : Nat} {s : SV} (h : partS tab t cs off = some s) : ∃ v, Am.part tab t ca off = .ok v ∧ SimV C s v := by
  unfold partS at h
  unfold Am.part
  split at h
  · rename_i hg
    split at h
    · rename_i n hn
      cases hb : Nat.ble (off + n) cs.length
      · rw [hb] at h; cases h
      · rw [hb] at h; cases h
        refine ⟨.agg ((ca.drop off).take n), ?_, .agg ((hc.drop off).take n).1 ((hc.drop off).take n).2⟩
        rw [rb (show Am.isAgg tab t = .ok true from ro hg)]
        simp only [if_true]
        rw [rb (show siz tab t = .ok n from ro hn)]
    · cases h
  · rename_i hg
    obtain ⟨v, h1, h2⟩ := hc.get h
    refine ⟨v, ?_, h2⟩
    rw [rb (show Am.isAgg tab t = .ok false from ro hg)]
    simp only [Bool.false_eq_true, if_false]
    exact ro h1
  · cases h
theorem overlayS_ok {cs vs : List SV} {ca va : List AV} (hc : SimL C cs ca) (hv : SimL C vs va) (off : Nat) : SimL C (overlayS cs off vs) (overlay ca off va) := by
  unfold overlayS overlay
  rw [hv.1]
  exact (hc.take off).append (hv.append (hc.drop _))
theorem cells_ok' {s : SV} {v : AV} (h : SimV C s v) (hk : s.known = true) : ∃ l, v.cells = .ok l ∧ SimL C s.cells l := by
  have one : ∀ {s : SV} {v : AV}, SimV C s v → SimL C [s] [v] := fun h => SimL.cons h SimL.nil
  cases h with
  | pure h =>
    cases h with
    | any v => cases hk
    | agg h1 h2 => exact ⟨_, rfl, h1, fun i s v hs hv => .pure (h2 i s v hs hv)⟩
    | bool b => exact ⟨_, rfl, one (.pure (.bool b))⟩
    | int k n => exact ⟨_, rfl, one (.pure (.int k n))⟩
    | str s => exact ⟨_, rfl, one (.pure (.str s))⟩
    | nilp => exact ⟨_, rfl, one (.pure .nilp)⟩
    | nils => exact ⟨_, rfl, one (.pure .nils)⟩
    | nilm => exact ⟨_, rfl, one (.pure .nilm)⟩
    | nilf => exact ⟨_, rfl, one (.pure .nilf)⟩
    | lst0 h0 hv =>
      rcases hv with rfl | ⟨b, off, l, n, k, rfl⟩ | ⟨a, c, rfl⟩
      · exact ⟨_, rfl, one (.pure (.lst0 h0 (.inl rfl)))⟩
      · exact ⟨_, rfl, one (.pure (.lst0 h0 (.inr (.inl ⟨_, _, _, _, _, rfl⟩))))⟩
      · exact ⟨_, rfl, one (.pure (.lst0 h0 (.inr (.inr ⟨_, _, rfl⟩))))⟩
    | lst b off cap cs e sz ext bk u hb hs hl hn hc h1 h2 => exact ⟨_, rfl, one (.pure (.lst b off cap cs e sz ext bk u hb hs hl hn hc h1 h2))⟩
    | rptr b base ca e sz ext bk u hb hl h1 h2 => exact ⟨_, rfl, one (.pure (.rptr b base ca e sz ext bk u hb hl h1 h2))⟩
    | fn h1 h2 h3 h4 => exact ⟨_, rfl, one (.pure (.fn h1 h2 h3 h4))⟩
    | tup h1 h2 => exact ⟨_, rfl, one (.pure (.tup h1 h2))⟩
  | ptr h => exact ⟨_, rfl, one (.ptr h)⟩
  | eptr h hc => exact ⟨_, rfl, one (.eptr h hc)⟩
  | own0 h hc => exact ⟨_, rfl, one (.own0 h hc)⟩
  | own h hc => exact ⟨_, rfl, one (.own h hc)⟩
  | sl h => exact ⟨_, rfl, one (.sl h)⟩
  | fn h1 h2 h3 h4 => exact ⟨_, rfl, one (.fn h1 h2 h3 h4)⟩
  | agg h1 h2 => exact ⟨_, rfl, h1, h2⟩
  | tup h1 h2 => exact ⟨_, rfl, one (.tup h1 h2)⟩
theorem scalar_ok {s : SV} {v : AV} (h : SimV C s v) (hk : isScalar s = true) : oneCell v = true := by
  cases h with
  | pure h =>
    cases h with
    | any v => cases hk
    | agg h1 h2 => cases hk
    | tup h1 h2 => cases hk
    | lst0 h0 hv => rcases hv with rfl | ⟨b, off, l, n, k, rfl⟩ | ⟨a, c, rfl⟩ <;> rfl
    | _ => rfl
  | agg h1 h2 => cases hk
  | tup h1 h2 => cases hk
  | _ => rfl
theorem scalars_ok {cs : List SV} {ca : List AV} (hc : SimL C cs ca) (h : cs.all isScalar = true) : ca.all oneCell = true := by
  rw [List.all_eq_true] at h ⊢
  intro v hv
  obtain ⟨i, hi⟩ := List.mem_iff_getElem?.1 hv
  have hlt : i < cs.length := by rw [hc.1]; exact (List.getElem?_eq_some_iff.1 hi).1
  exact scalar_ok (hc.2 i _ v (List.getElem?_eq_getElem hlt) hi) (h _ (List.getElem_mem hlt))
theorem zeroS_ok {t : TypeId} {z : List SV} (h : zeroS tab t = some z) : ∃ zv zc, zero tab t = .ok zv ∧ zv.cells = .ok zc ∧ SimL C z zc := by
  unfold zeroS at h
  obtain ⟨zv, h1, h2⟩ := Option.bind_eq_some_iff.1 h
  refine ⟨zv, ?_⟩
  cases zv with
  | agg cs =>
    simp only [ofAVs] at h2
    obtain ⟨g1, g2⟩ := mapO_ok h2
    exact ⟨cs, ro h1, rfl, g1.symm, fun i s v hs hv => ofAV_ok (g2 i v s hv hs)⟩
  | raw v => simp [ofAVs, ofAV] at h2
  | _ =>
    simp only [ofAVs, ofAV, Option.map_some, Option.map_none, Option.some.injEq] at h2
    first
      | (cases h2; done)
      | (subst h2; exact ⟨_, ro h1, rfl, SimL.cons (.pure (by constructor)) SimL.nil⟩)
end
end Go.Sy

namespace Go.Sy
open Go.Am Go.RowKit
universe u v
variable [Inhabited DrP]

section
variable {tab : Tab} {C : Cx} {h : SH} {a : AH}
theorem cellsAt_ok {b : Nat} {ca : List AV} {e : TypeId} {sz : Nat} {ext : Bool} {bk : BK} (hb : a.get b = some (.cells ca e sz ext bk)) : cellsAt a b = .ok (ca, e, sz, ext, bk) := by
  unfold cellsAt; rw [hb]
theorem read_ok {b base : Nat} {ca : List AV} {e : TypeId} {sz : Nat} {ext : Bool} {bk : BK} (hb : a.get b = some (.cells ca e sz ext bk)) {cs : List SV} (hl : base + cs.length ≤ ca.length)
    (hc : ∀ (j : Nat) s, cs[j]? = some s → ∃ u, ca[base + j]? = some u ∧ SimV C s u) {t off : Nat} {sv : SV} (hp : partS tab t cs off = some sv) : ∃ u, Am.loadVar tab a t b (base + off) = .ok u ∧ SimV C sv u := by
  unfold partS at hp
  unfold Am.loadVar
  split at hp
  · rename_i hg
    split at hp
    · rename_i n hn
      cases hle : Nat.ble (off + n) cs.length
      · rw [hle] at hp; cases hp
      · rw [hle] at hp; cases hp
        have hle := Nat.le_of_ble_eq_true hle
        rw [rb (show Am.isAgg tab t = .ok true from ro hg)]
        simp only [if_true]
        rw [rb (show siz tab t = .ok n from ro hn)]
        have hr : readN a b (base + off) n = .ok ((ca.drop (base + off)).take n) := by
          unfold readN
          rw [rb (cellsAt_ok hb)]
          simp only
          rw [rb (rc (by simp only [Nat.ble_eq]; omega))]
        rw [rb hr]
        refine ⟨_, rfl, .agg (by simp; omega) (fun i s u hs hu => ?_)⟩
        rw [List.getElem?_take] at hs hu
        split at hs
        · rename_i hi
          rw [if_pos hi] at hu
          rw [List.getElem?_drop] at hs hu
          obtain ⟨w, hw, hsim⟩ := hc _ s hs
          rw [← Nat.add_assoc] at hw
          rw [hw] at hu
          cases hu
          exact hsim
        · cases hs
    · cases hp
  · rename_i hg
    obtain ⟨u, hu, hsim⟩ := hc off sv hp
    rw [rb (show Am.isAgg tab t = .ok false from ro hg)]
    simp only [Bool.false_eq_true, if_false]
    rw [rb (cellsAt_ok hb)]
    exact ⟨u, ro hu, hsim⟩
  · cases hp
theorem loadS_ok (H : HS tab C h a) {p : SV} {v : AV} (hv : SimV C p v) {t : TypeId} {K : SV → Prop} (hl : loadS tab h t p K) : ∃ b off u sv, v = .ptr b off ∧ Am.loadVar tab a t b off = .ok u ∧ SimV C sv u ∧ K sv := by
  unfold loadS at hl
  split at hl
  · rename_i b off
    split at hl
    · rename_i cs e hb
      obtain ⟨sv, hp, hk⟩ := so_ok hl
      cases hv with
      | pure h => cases h
      | ptr hI =>
        obtain ⟨_, ca, sz, h2, h3, _⟩ := H.at_ hb hI
        obtain ⟨u, h4, h5⟩ := read_ok h2 (base := 0) (cs := cs) (by rw [h3.1]; omega) (fun j s hs => by rw [Nat.zero_add]; exact h3.get hs) hp
        rw [Nat.zero_add] at h4
        exact ⟨_, _, u, sv, rfl, h4, h5, hk⟩
    · exact hl.elim
  · rename_i b i off
    split at hl
    · rename_i X L enc e hb
      obtain ⟨x, hx, hl⟩ := so_ok hl
      obtain ⟨sv, hp, hk⟩ := so_ok hl
      cases hv with
      | pure h => cases h
      | eptr hI hc =>
        rename_i I
        obtain ⟨g1, g2, g3, g4, g5⟩ := H.at_ hb hI
        obtain ⟨c, hc'⟩ := Option.isSome_iff_exists.1 hc
        rw [hc'] at g5
        obtain ⟨ca, ext, bk, k1, k2, k3, k4, k5⟩ := g5
        have hlt := (List.getElem?_eq_some_iff.1 hx).1
        obtain ⟨u, h4, h5⟩ := read_ok k1 (base := i * I.sz) (cs := enc x) (by
            rw [k3, g4 i x hx, ← Nat.succ_mul]
            exact Nat.mul_le_mul_right _ hlt) (fun j s hs => by
            obtain ⟨u, q1, q2⟩ := k5 i x j s hx hs
            exact ⟨u, q1, .pure q2⟩) hp
        exact ⟨_, _, u, sv, rfl, h4, h5, hk⟩
    · exact hl.elim
  · rename_i cs off
    obtain ⟨sv, hp, hk⟩ := so_ok hl
    cases hv with
    | pure h =>
      cases h with
      | rptr b base ca e sz ext bk u hb hl h1 h2 =>
        obtain ⟨w, h4, h5⟩ := read_ok (H.fz _ _ hb) (base := base) (cs := cs) hl (fun j s hs => ⟨_, h1 j s hs, .pure (h2 j s hs)⟩) hp
        exact ⟨_, _, w, sv, rfl, h4, h5, hk⟩
  · exact hl.elim

theorem pure_ok {s : SV} {v : AV} (h : SimV C s v) (hp : isPure s = true) : SimP C.Fz s v := by
  cases h with
  | pure h => exact h
  | _ => cases hp
theorem storeVar_ok {t : TypeId} {b off n : Nat} {v : AV} {l ca : List AV} {e : TypeId} {sz : Nat} {ext : Bool} {bk : BK} (hn : tab.siz.get t = some n) (hv : v.cells = .ok l) (hl : l.length = n) (hn0 : n ≠ 0)
    (hb : a.get b = some (.cells ca e sz ext bk)) (hbk : (bk ≠ .ro ∧ bk ≠ .cold)) (hr : off + n ≤ ca.length) (h1 : l.all oneCell = true) : Am.storeVar tab a t b off v = .ok (a.set b (.cells (overlay ca off l) e sz ext bk)) := by
  unfold Am.storeVar
  rw [rb (show siz tab t = .ok n from ro hn), rb hv, rb (rc (by simp [hl]))]
  unfold writeN
  cases l with
  | nil => exact absurd hl.symm hn0
  | cons x l =>
    simp only
    rw [rb (cellsAt_ok hb)]
    simp only
    rw [rb (rc (by simpa using hbk)), rb (rc (by rw [hl]; simp only [Nat.ble_eq]; exact hr)), rb (rc h1)]
theorem storeS_ok (H : HS tab C h a) {p s : SV} {v w : AV} (hv : SimV C p v) (hw : SimV C s w) {t : TypeId} {K : SH → Prop} (hl : storeS tab h t p s K) :
    ∃ b off a' h', v = .ptr b off ∧ Am.storeVar tab a t b off w = .ok a' ∧ HS tab C h' a' ∧ K h' ∧ Grow a a' ∧ Keep C h a (modOf p) C h' a' := by
  unfold storeS at hl
  split at hl
  · rename_i n hn
    obtain ⟨hck, hl⟩ := ck_ok hl
    simp only [Bool.and_eq_true, Bool.not_eq_true'] at hck
    obtain ⟨⟨⟨hn0, hkn⟩, hlen⟩, hsc⟩ := hck
    have hn0 : n ≠ 0 := fun e => by subst e; simp at hn0
    have hlen := Nat.eq_of_beq_eq_true hlen
    obtain ⟨l, hl1, hl2⟩ := cells_ok' hw hkn
    have hone := scalars_ok hl2 hsc
    have hll : l.length = n := by rw [← hl2.1, hlen]
    split at hl
    · rename_i b off _
      split at hl
      · rename_i cs e hb
        obtain ⟨hr, hk⟩ := ck_ok hl
        have hr := Nat.le_of_ble_eq_true hr
        cases hv with
        | pure h => cases h
        | ptr hI =>
          rename_i I
          obtain ⟨hc, ca, sz, h2, h3, h3s⟩ := H.at_ hb hI
          refine ⟨_, _, _, _, rfl, storeVar_ok hn hl1 hll hn0 h2 (by simp) (by rw [← h3.1]; exact hr) hone, H.mod hb hI hc (o := .cells (overlayS cs off s.cells) e) ⟨hc, _, sz, by rw [AH.get_set, if_pos rfl], overlayS_ok h3 hl2 off, h3s⟩, hk, ⟨by simp, fun i o hi => ?_⟩, ?_⟩
          · rw [AH.get_set] at hi
            split at hi
            · rename_i e'; exact .inl ⟨_, e' ▸ h2⟩
            · exact .inl ⟨_, hi⟩
          · intro q o J hq hJ hcJ hn
            have hqb : q ≠ b := fun e' => hn (by simp [modOf, modded, e'])
            refine ⟨?_, .inl ⟨o, by rw [SH.get_set, if_neg hqb]; exact hq, hJ⟩⟩
            rw [AH.get_set, if_neg]
            intro e'
            exact hqb (H.inj q _ o _ J I hq hb hJ hI hcJ hc e')
      · exact hl.elim
    · exact hl.elim
  · exact hl.elim
end
end Go.Sy

namespace Go.Sy
open Go.Am Go.RowKit
universe u v
variable [Inhabited DrP]

section
variable {tab : Tab} {C : Cx} {h : SH} {a : AH}

theorem eqTS_ok : ∀ (d : Nat) (t : TypeId) (x y : SV) (u w : AV) (p : Bool), eqTS tab d t x y = some p → SimV C x u → SimV C y w → eqT tab d t u w = .ok p := by
  intro d
  induction d with
  | zero => intro t x y u w p h; simp only [eqTS] at h; cases h
  | succ d ih =>
    have hgo : ∀ (fs : List Field) (xs ys : List SV) (us ws : List AV) (p : Bool), eqFS tab (eqTS tab d) fs xs ys = some p → SimL C xs us → SimL C ys ws → eqFields tab (eqT tab d) us ws fs = .ok p := by
      intro fs
      induction fs with
      | nil => intro xs ys us ws p h _ _; simp only [eqFS, Option.some.injEq] at h; subst h; rfl
      | cons f fs ihf =>
        intro xs ys us ws p h hx hy
        simp only [eqFS] at h
        simp only [eqFields]
        by_cases hn : f.name = "_"
        · simp only [hn, decide_true, cond_true] at h
          simp only [hn, ne_eq, not_true_eq_false, if_false]
          exact ihf xs ys us ws p h hx hy
        · simp only [hn, decide_false, cond_false] at h
          simp only [ne_eq, hn, not_false_eq_true, if_true]
          split at h
          · rename_i s1 s2 h1 h2
            split at h
            · rename_i p1 q1 h3 h4
              cases h
              obtain ⟨v1, g1, k1⟩ := partS_ok hx h1
              obtain ⟨v2, g2, k2⟩ := partS_ok hy h2
              rw [rb g1, rb g2, rb (ih _ _ _ _ _ _ h3 k1 k2)]
              cases p1 with
              | true => simp only [if_true, Bool.true_and]; exact ihf xs ys us ws q1 h4 hx hy
              | false => simp only [Bool.false_eq_true, if_false, Bool.false_and]
            · cases h
          · cases h
    intro t x y u w p h hx hy
    unfold eqTS at h
    split at h
    all_goals first
      | (cases h; done)
      | skip
    all_goals (rename_i hg)
    case h_1 => 
      cases h; cases hx with
      | pure hx => cases hx with
        | bool => cases hy with
          | pure hy => cases hy with
            | bool => simp only [eqT]; rw [rb (show und tab t = _ from ro hg)]
    case h_2 =>
      rename_i k1 a1 k2 a2
      cases hk : decide (k1 = k2)
      · rw [hk] at h; cases h
      · rw [hk] at h; cases h
        have hk := of_decide_eq_true hk
        cases hx with
        | pure hx => cases hx with
          | int => cases hy with
            | pure hy => cases hy with
              | int => simp only [eqT]; rw [rb (show und tab t = _ from ro hg)]; simp only [hk, if_true]
    case h_3 =>
      cases h; cases hx with
      | pure hx => cases hx with
        | str => cases hy with
          | pure hy => cases hy with
            | str => simp only [eqT]; rw [rb (show und tab t = _ from ro hg)]
    case h_4 =>
      cases h; cases hx with
      | pure hx => cases hx with
        | nilp => cases hy with
          | pure hy => cases hy with
            | nilp => simp only [eqT]; rw [rb (show und tab t = _ from ro hg)]
    case h_5 =>
      cases h; cases hx with
      | pure hx => cases hx with
        | nilp => cases hy with
          | pure hy => cases hy
          | ptr hI => simp only [eqT]; rw [rb (show und tab t = _ from ro hg)]
    case h_6 =>
      cases h; cases hx with
      | pure hx => cases hx
      | ptr hI => cases hy with
        | pure hy => cases hy with
          | nilp => simp only [eqT]; rw [rb (show und tab t = _ from ro hg)]
    case h_7 =>
      cases h; cases hx with
      | pure hx => cases hx with
        | nils => cases hy with
          | pure hy => cases hy with
            | nils => simp only [eqT]; rw [rb (show und tab t = _ from ro hg)]
    case h_8 =>
      cases h; cases hx with
      | pure hx => cases hx with
        | nilm => cases hy with
          | pure hy => cases hy with
            | nilm => simp only [eqT]; rw [rb (show und tab t = _ from ro hg)]
    case h_9 => cases hy with
      | pure hy => cases hy
    case h_10 => cases hx with
      | pure hx => cases hx
    case h_11 =>
      cases h; cases hx with
      | pure hx => cases hx with
        | nilf => cases hy with
          | pure hy => cases hy with
            | nilf => simp only [eqT]; rw [rb (show und tab t = _ from ro hg)]
    case h_12 =>
      cases h; cases hx with
      | pure hx => cases hx with
        | nilf => cases hy with
          | pure hy => cases hy with
            | fn => simp only [eqT]; rw [rb (show und tab t = _ from ro hg)]
          | fn => simp only [eqT]; rw [rb (show und tab t = _ from ro hg)]
    case h_13 =>
      cases h; cases hy with
      | pure hy => cases hy with
        | nilf => cases hx with
          | pure hx => cases hx with
            | fn => simp only [eqT]; rw [rb (show und tab t = _ from ro hg)]
          | fn => simp only [eqT]; rw [rb (show und tab t = _ from ro hg)]
    case h_14 =>
      split at h
      · rename_i hh
        have hA : ∀ {cs : List SV} {v : AV}, SimV C (.agg cs) v → ∃ us, v = .agg us ∧ SimL C cs us := by
          intro cs v hv
          cases hv with
          | pure hv => cases hv with
            | agg h1 h2 => exact ⟨_, rfl, h1, fun i s v hs hv => .pure (h2 i s v hs hv)⟩
          | agg h1 h2 => exact ⟨_, rfl, h1, h2⟩
        obtain ⟨us, e1, h1⟩ := hA hx
        obtain ⟨ws, e2, h2⟩ := hA hy
        subst e1; subst e2
        simp only [eqT]
        rw [rb (show und tab t = _ from ro hg)]
        simp only [hh]
        exact hgo _ _ _ _ _ _ h h1 h2
      · cases h

theorem agg_ok {cs : List SV} {v : AV} (hv : SimV C (.agg cs) v) : ∃ us, v = .agg us ∧ SimL C cs us := by
  cases hv with
  | pure hv => cases hv with
    | agg h1 h2 => exact ⟨_, rfl, h1, fun i s v hs hv => .pure (h2 i s v hs hv)⟩
  | agg h1 h2 => exact ⟨_, rfl, h1, h2⟩
theorem tup_ok {cs : List SV} {v : AV} (hv : SimV C (.tup cs) v) : ∃ us, v = .tup us ∧ SimL C cs us := by
  cases hv with
  | pure hv => cases hv with
    | tup h1 h2 => exact ⟨_, rfl, h1, fun i s v hs hv => .pure (h2 i s v hs hv)⟩
  | tup h1 h2 => exact ⟨_, rfl, h1, h2⟩
theorem int_ok {k : IntKind} {n : Int} {v : AV} (hv : SimV C (.int k n) v) : v = .int k n := by
  cases hv with
  | pure hv => cases hv; rfl
theorem str_ok {s : List UInt8} {v : AV} (hv : SimV C (.str s) v) : v = .str s := by
  cases hv with
  | pure hv => cases hv; rfl
theorem bool_ok {b : Bool} {v : AV} (hv : SimV C (.bool b) v) : v = .bool b := by
  cases hv with
  | pure hv => cases hv; rfl
theorem nils_ok {v : AV} (hv : SimV C .nils v) : v = .nils := by
  cases hv with
  | pure hv => cases hv; rfl

theorem ltI_eq (x y : Int) : ltI x y = decide (x < y) := by
  rw [Bool.eq_iff_iff, decide_eq_true_eq]
  unfold ltI
  cases x with
  | ofNat a => cases y with
    | ofNat b => simp
    | negSucc b => simp; omega
  | negSucc a => cases y with
    | ofNat b => simp; omega
    | negSucc b => simp; omega
theorem leI_eq (x y : Int) : leI x y = decide (x ≤ y) := by
  rw [Bool.eq_iff_iff, decide_eq_true_eq]
  unfold leI
  cases x with
  | ofNat a => cases y with
    | ofNat b => simp
    | negSucc b => simp; omega
  | negSucc a => cases y with
    | ofNat b => simp; omega
    | negSucc b => simp; omega
theorem wrap_in {k : IntKind} {n : Int} (h : inR k n = true) : k.wrap n = n := by
  unfold inR at h
  rw [leI_eq, leI_eq] at h
  simp only [Bool.and_eq_true, decide_eq_true_eq] at h
  obtain ⟨h1, h2⟩ := h
  cases k <;> simp only [loI, hiI, IntKind.wrap, IntKind.signed, IntKind.bits] at * <;> simp at * <;> omega
theorem sOf_ok {r : R AV} {s : SV} (h : sOf r = some s) : ∃ v, r = .ok v ∧ SimV C s v := by
  cases r with
  | no w => cases h
  | ok v => exact ⟨v, rfl, ofAV_ok h⟩
theorem eqOp_of {t : TypeId} {x y : SV} {u w : AV} {p : Bool} (h : eqTS tab 8 t x y = some p) (hx : SimV C x u) (hy : SimV C y w) (hg : ∀ a b, x = .agg a → y = .agg b → tab.grd.get t = some false) : eqOp tab a t u w = .ok p := by
  have hh := eqTS_ok 8 t x y u w p h hx hy
  have e : ∀ (u w : AV), (∀ b i c j, u = .ptr b i → w = .ptr c j → False) → (∀ a b, u = .agg a → w = .agg b → False) → (u = .nili → w = .nili → False) → eqOp tab a t u w = eqT tab 8 t u w := by
    intro u w h1 h2 h3
    unfold eqOp
    split
    · exact (h1 _ _ _ _ rfl rfl).elim
    · exact (h2 _ _ rfl rfl).elim
    · exact (h3 rfl rfl).elim
    · rfl
  have h0 := h
  unfold eqTS at h
  split at h
  case h_15 => cases h
  case h_14 =>
    obtain ⟨us, rfl, _⟩ := agg_ok hx
    obtain ⟨ws, rfl, _⟩ := agg_ok hy
    unfold eqOp
    simp only [hg _ _ rfl rfl]
    exact hh
  all_goals
    rw [e u w ?_ ?_ ?_]
    · exact hh
    all_goals (intros; subst_vars)
    all_goals first
      | (cases hx with
          | pure hx => cases hx
          | _ => (cases hy with
            | pure hy => cases hy))
      | (cases hx with
          | pure hx => cases hx)
      | (cases hy with
          | pure hy => cases hy)
      | skip
end
end Go.Sy

namespace Go.Sy
open Go.Am Go.RowKit
universe u v
variable [Inhabited DrP]

section
variable {tab : Tab} {C : Cx} {h : SH} {a : AH}

def Val (C : Cx) (K : SV → Prop) (r : R AV) : Prop := ∃ s v, r = .ok v ∧ SimV C s v ∧ K s
theorem Val.pure {K : SV → Prop} {s : SV} {v : AV} (h : SimP C.Fz s v) (hk : K s) : Val C K (.ok v) := ⟨s, v, rfl, .pure h, hk⟩

theorem sarith_ok {op : BinOp} {k : IntKind} {x y : Int} {K : SV → Prop} (h : sarith op k x y K) : Val C K (intOp op k x y) := by
  have fit : ∀ n : Int, (bif k.signed then ck (inR k n) (K (.int k n)) else K (.int k (k.wrap n))) → Val C K (.ok (.int k (k.wrap n))) := by
    intro n hn
    cases hs : k.signed
    · rw [hs] at hn; exact Val.pure (.int k _) hn
    · rw [hs] at hn
      obtain ⟨h1, h2⟩ := ck_ok hn
      rw [wrap_in h1]
      exact Val.pure (.int k _) h2
  unfold sarith at h
  cases op
  case add => exact fit _ h
  case sub => exact fit _ h
  case mul => exact fit _ h
  case quo =>
    obtain ⟨h1, h2⟩ := ck_ok h
    have hy : ¬ y = 0 := by simpa using h1
    simp only [intOp, if_neg hy]
    exact fit _ h2
  case rem =>
    obtain ⟨h1, h2⟩ := ck_ok h
    have hy : ¬ y = 0 := by simpa using h1
    simp only [intOp, if_neg hy]
    exact Val.pure (.int k _) h2
  case eql => exact Val.pure (.bool _) h
  case neq => exact Val.pure (.bool _) h
  case lss => have h : K (.bool (ltI x y)) := h; rw [ltI_eq] at h; exact Val.pure (.bool _) h
  case leq => have h : K (.bool (leI x y)) := h; rw [leI_eq] at h; exact Val.pure (.bool _) h
  case gtr => have h : K (.bool (ltI y x)) := h; rw [ltI_eq] at h; exact Val.pure (.bool _) h
  case geq => have h : K (.bool (leI y x)) := h; rw [leI_eq] at h; exact Val.pure (.bool _) h
  all_goals
    obtain ⟨s, h1, h2⟩ := so_ok h
    obtain ⟨v, h3, h4⟩ := sOf_ok h1
    exact ⟨s, v, h3, h4, h2⟩

theorem eq_forms {t : TypeId} {x y : SV} {p : Bool} {u w : AV} (h : eqTS tab 8 t x y = some p) (hx : SimV C x u) (hy : SimV C y w) :
    (∃ k m j n, x = .int k m ∧ y = .int j n) ∨ (∃ s s', x = .str s ∧ y = .str s') ∨
      (Am.binOp tab a .eql t u w = (do .ok (.bool (← eqOp tab a t u w)) : R AV) ∧ Am.binOp tab a .neq t u w = (do .ok (.bool (!(← eqOp tab a t u w))) : R AV)) := by
  have key : (∀ k m j n, u = .int k m → w = .int j n → False) → (∀ s s', u = .str s → w = .str s' → False) →
      (Am.binOp tab a .eql t u w = (do .ok (.bool (← eqOp tab a t u w)) : R AV) ∧ Am.binOp tab a .neq t u w = (do .ok (.bool (!(← eqOp tab a t u w))) : R AV)) := by
    intro h1 h2
    constructor <;> (unfold Am.binOp; split <;> first | contradiction | (exact (h1 _ _ _ _ rfl rfl).elim) | (exact (h2 _ _ rfl rfl).elim) | rfl | (rename_i hh _; cases hh) | skip)
  unfold eqTS at h
  split at h
  case h_2 => exact .inl ⟨_, _, _, _, rfl, rfl⟩
  case h_3 => exact .inr (.inl ⟨_, _, rfl, rfl⟩)
  case h_15 => cases h
  all_goals
    refine .inr (.inr (key ?_ ?_))
    all_goals (intros; subst_vars)
    all_goals first
      | (cases hx with
          | pure hx => cases hx)
      | (cases hy with
          | pure hy => cases hy)
      | (cases hx)
      | skip
theorem sbin_ok {op : BinOp} {t : TypeId} {x y : SV} {K : SV → Prop} {u w : AV} (h : sbin tab op t x y K) (hx : SimV C x u) (hy : SimV C y w) : Val C K (Am.binOp tab a op t u w) := by
  have eqK : ∀ {p : Bool}, eqTS tab 8 t x y = some p → (∀ a b, x = .agg a → y = .agg b → tab.grd.get t = some false) → eqOp tab a t u w = .ok p := fun h1 h2 => eqOp_of h1 hx hy h2
  unfold sbin at h
  split at h
  · -- shl
    rw [int_ok hx, int_ok hy]
    rename_i k a1 j b1
    obtain ⟨h1, h2⟩ := ck_ok h
    obtain ⟨s, h3, h4⟩ := so_ok h2
    cases b1 with
    | negSucc m => cases h1
    | ofNat m =>
      obtain ⟨v, h5, h6⟩ := sOf_ok (C := C) h3
      cases h5
      refine ⟨s, _, ?_, h6, h4⟩
      simp only [Am.binOp, shiftOp]
      rw [if_neg (by simp)]
  · -- shr
    rw [int_ok hx, int_ok hy]
    rename_i k a1 j b1
    obtain ⟨h1, h2⟩ := ck_ok h
    obtain ⟨s, h3, h4⟩ := so_ok h2
    cases b1 with
    | negSucc m => cases h1
    | ofNat m =>
      obtain ⟨v, h5, h6⟩ := sOf_ok (C := C) h3
      cases h5
      refine ⟨s, _, ?_, h6, h4⟩
      simp only [Am.binOp, shiftOp]
      rw [if_neg (by simp)]
  · -- numbers
    rename_i k a1 j b1 hn1 hn2
    rw [int_ok hx, int_ok hy]
    obtain ⟨h1, h2⟩ := ck_ok h
    have hk : k = j := of_decide_eq_true h1
    subst hk
    have := sarith_ok (C := C) h2
    cases op <;> simp only [Am.binOp, if_true] <;> first | exact this | exact (hn1 rfl).elim | exact (hn2 rfl).elim
  · obtain ⟨h1, h2⟩ := ck_ok h
    rw [str_ok hx, str_ok hy]
    simp only [Am.binOp, strOp]
    rw [if_pos (Nat.le_of_ble_eq_true h1)]
    exact Val.pure (.str _) h2
  · rw [str_ok hx, str_ok hy]; exact Val.pure (.bool _) h
  · rw [str_ok hx, str_ok hy]; exact Val.pure (.bool _) h
  · rw [str_ok hx, str_ok hy]; exact Val.pure (.bool _) h
  · rw [str_ok hx, str_ok hy]; exact Val.pure (.bool _) h
  · rw [str_ok hx, str_ok hy]; exact Val.pure (.bool _) h
  · rw [str_ok hx, str_ok hy]; exact Val.pure (.bool _) h
  · split at h
    · rename_i hg
      obtain ⟨p, h1, h2⟩ := so_ok h
      have he := eqK h1 (fun _ _ _ _ => hg)
      obtain ⟨us, rfl, _⟩ := agg_ok hx
      obtain ⟨ws, rfl, _⟩ := agg_ok hy
      simp only [Am.binOp]
      rw [rb he]
      exact Val.pure (.bool _) h2
    · exact h.elim
  · split at h
    · rename_i hg
      obtain ⟨p, h1, h2⟩ := so_ok h
      have he := eqK h1 (fun _ _ _ _ => hg)
      obtain ⟨us, rfl, _⟩ := agg_ok hx
      obtain ⟨ws, rfl, _⟩ := agg_ok hy
      simp only [Am.binOp]
      rw [rb he]
      exact Val.pure (.bool _) h2
    · exact h.elim
  · rename_i n1 n2 n3
    obtain ⟨p, h1, h2⟩ := so_ok h
    have he := eqK h1 (fun a b e1 e2 => (n3 a b e1 e2).elim)
    have hb : Am.binOp tab a .eql t u w = (do .ok (.bool (← eqOp tab a t u w)) : R AV) := by
      rcases eq_forms h1 hx hy with ⟨k, m, j, n, rfl, rfl⟩ | ⟨s1, s2, rfl, rfl⟩ | hne
      · exact (n1 _ _ _ _ rfl rfl).elim
      · exact (n2 _ _ rfl rfl).elim
      · exact hne.1
    rw [hb, rb he]
    exact Val.pure (.bool _) h2
  · rename_i n1 n2 n3
    obtain ⟨p, h1, h2⟩ := so_ok h
    have he := eqK h1 (fun a b e1 e2 => (n3 a b e1 e2).elim)
    have hb : Am.binOp tab a .neq t u w = (do .ok (.bool (!(← eqOp tab a t u w))) : R AV) := by
      rcases eq_forms h1 hx hy with ⟨k, m, j, n, rfl, rfl⟩ | ⟨s1, s2, rfl, rfl⟩ | hne
      · exact (n1 _ _ _ _ rfl rfl).elim
      · exact (n2 _ _ rfl rfl).elim
      · exact hne.2
    rw [hb, rb he]
    exact Val.pure (.bool _) h2
  · exact h.elim
end
end Go.Sy

namespace Go.Sy
open Go.Am Go.RowKit
universe u v
variable [Inhabited DrP]

section
variable {tab : Tab} {C : Cx} {h : SH} {a : AH}

theorem sun_ok {op : UnOp} {x : SV} {K : SV → Prop} {u : AV} (h : sun op x K) (hx : SimV C x u) : Val C K (Am.unOp op u) := by
  unfold sun at h
  split at h
  · rename_i k n
    rw [int_ok hx]
    simp only [Am.unOp]
    cases hs : k.signed
    · rw [hs] at h; exact Val.pure (.int k _) h
    · rw [hs] at h
      obtain ⟨h1, h2⟩ := ck_ok h
      rw [wrap_in h1]
      exact Val.pure (.int k _) h2
  · rw [int_ok hx]
    obtain ⟨s, h1, h2⟩ := so_ok h
    obtain ⟨v, h3, h4⟩ := sOf_ok h1
    exact ⟨s, v, h3, h4, h2⟩
  · rw [bool_ok hx]; exact Val.pure (.bool _) h
  · exact h.elim
theorem natS_ok {x : SV} {K : Nat → Prop} {u : AV} (h : natS x K) (hx : SimV C x u) : ∃ n, asNat u = .ok n ∧ K n := by
  unfold natS at h
  split at h
  · rename_i k n
    obtain ⟨h1, h2⟩ := ck_ok h
    rw [int_ok hx]
    cases n with
    | negSucc m => cases h1
    | ofNat m => exact ⟨m, rfl, h2⟩
  · exact h.elim
theorem partsS_ok {ts : Fr} {ta : T AV} (hF : FS C ts ta) : ∀ {l : List (Nat × Operand)} {m : List (Nat × SV)}, partsS ts l = some m → ∃ vs, evParts ta l = .ok vs ∧ vs.map (·.1) = m.map (·.1) ∧ SimL C (m.map (·.2)) (vs.map (·.2)) := by
  intro l
  induction l with
  | nil => intro m h; simp only [partsS, Option.some.injEq] at h; subst h; exact ⟨[], rfl, rfl, SimL.nil⟩
  | cons x l ih =>
    obtain ⟨i, x⟩ := x
    intro m h
    simp only [partsS] at h
    split at h
    · rename_i s r h1 h2
      cases h
      obtain ⟨v, hv, g1⟩ := sev_ok hF h1
      obtain ⟨vs, hvs, g2, g3⟩ := ih h2
      refine ⟨(i, v) :: vs, ?_, by simp [g2], SimL.cons g1 g3⟩
      simp only [evParts]
      rw [rb hv, rb hvs]
    · cases h
theorem fillS_ok : ∀ {ps : List (Nat × Nat × SV)} {qs : List (Nat × Nat × AV)} {cs : List SV} {ca : List AV} {r : List SV}, SimL C cs ca → qs.map (fun x => (x.1, x.2.1)) = ps.map (fun x => (x.1, x.2.1)) → SimL C (ps.map (·.2.2)) (qs.map (·.2.2)) → fillS cs ps = some r →
    ∃ ra, fill ca qs = .ok ra ∧ SimL C r ra := by
  intro ps
  induction ps with
  | nil =>
    intro qs cs ca r hc hq _ h
    simp only [fillS, Option.some.injEq] at h
    subst h
    cases qs with
    | nil => exact ⟨ca, rfl, hc⟩
    | cons q qs => simp at hq
  | cons x ps ih =>
    intro qs cs ca r hc hq hs h
    cases qs with
    | nil => simp at hq
    | cons q qs =>
      obtain ⟨off, n, s⟩ := x
      obtain ⟨off', n', v⟩ := q
      simp only [List.map_cons, List.cons.injEq, Prod.mk.injEq] at hq
      obtain ⟨⟨rfl, rfl⟩, hq⟩ := hq
      simp only [List.map_cons] at hs
      obtain ⟨hv, hs⟩ := hs.head
      simp only [fillS] at h
      cases hb : (s.known && Nat.beq s.cells.length n' && Nat.ble (off' + n') cs.length)
      · rw [hb] at h; cases h
      · rw [hb] at h
        simp only [cond_true] at h
        simp only [Bool.and_eq_true] at hb
        obtain ⟨⟨hk, hl⟩, hr⟩ := hb
        obtain ⟨l, h1, h2⟩ := cells_ok' hv hk
        obtain ⟨ra, h3, h4⟩ := ih (overlayS_ok hc h2 off') hq hs h
        refine ⟨ra, ?_, h4⟩
        simp only [fill]
        rw [rb h1, rb (rc (by rw [← h2.1, hl, ← hc.1, hr]; rfl))]
        exact h3
theorem placesS_ok (fs : Array Field) : ∀ {ps : List (Nat × SV)} {vs : List (Nat × AV)} {r : List (Nat × Nat × SV)}, vs.map (·.1) = ps.map (·.1) → SimL C (ps.map (·.2)) (vs.map (·.2)) → placesS tab fs ps = some r →
    ∃ ra, fieldPlaces tab fs vs = .ok ra ∧ ra.map (fun x => (x.1, x.2.1)) = r.map (fun x => (x.1, x.2.1)) ∧ SimL C (r.map (·.2.2)) (ra.map (·.2.2)) := by
  intro ps
  induction ps with
  | nil =>
    intro vs r hv _ h
    simp only [placesS, Option.some.injEq] at h
    subst h
    cases vs with
    | nil => exact ⟨[], rfl, rfl, SimL.nil⟩
    | cons q qs => simp at hv
  | cons x ps ih =>
    intro vs r hv hs h
    cases vs with
    | nil => simp at hv
    | cons q vs =>
      obtain ⟨i, s⟩ := x
      obtain ⟨i', v⟩ := q
      simp only [List.map_cons, List.cons.injEq] at hv
      obtain ⟨rfl, hv⟩ := hv
      simp only [List.map_cons] at hs
      obtain ⟨hsv, hs⟩ := hs.head
      simp only [placesS] at h
      split at h
      · rename_i f hf
        split at h
        · rename_i n r' hn hr
          cases h
          obtain ⟨ra, h1, h2, h3⟩ := ih hv hs hr
          refine ⟨(f.offset, n, v) :: ra, ?_, by simp [h2], SimL.cons hsv h3⟩
          simp only [fieldPlaces]
          rw [rb (show R.of "field" _ = .ok f from ro hf), rb (show siz tab f.type = .ok n from ro hn), rb h1]
        · cases h
      · cases h
theorem buildS_ok {t : TypeId} {ps : List (Nat × SV)} {vs : List (Nat × AV)} {s : SV} (hv : vs.map (·.1) = ps.map (·.1)) (hs : SimL C (ps.map (·.2)) (vs.map (·.2))) (h : buildS tab t ps = some s) : ∃ v, Am.build tab t vs = .ok v ∧ SimV C s v := by
  unfold buildS at h
  unfold Am.build
  split at h
  · rename_i z fs hz hu
    obtain ⟨zv, zc, g1, g2, g3⟩ := zeroS_ok (C := C) hz
    rw [rb g1, rb g2, rb (show und tab t = _ from ro hu)]
    cases hb : fs.toList.all (fun f => (tab.siz.get f.type).isSome)
    · rw [hb] at h; cases h
    · rw [hb] at h
      simp only [cond_true] at h
      split at h
      · rename_i q hq
        obtain ⟨r, hr, rfl⟩ := Option.map_eq_some_iff.1 h
        obtain ⟨ra, h1, h2, h3⟩ := placesS_ok fs hv hs hq
        obtain ⟨rb', h4, h5⟩ := fillS_ok g3 h2 h3 hr
        simp only
        rw [rb (rc hb), rb h1, rb h4]
        exact ⟨_, rfl, .agg h5.1 h5.2⟩
      · cases h
  · rename_i z n e hz hu
    split at h
    · rename_i m hm
      obtain ⟨r, hr, rfl⟩ := Option.map_eq_some_iff.1 h
      obtain ⟨zv, zc, g1, g2, g3⟩ := zeroS_ok (C := C) hz
      rw [rb g1, rb g2, rb (show und tab t = _ from ro hu)]
      simp only
      rw [rb (show siz tab e = _ from ro hm)]
      obtain ⟨rb', h4, h5⟩ := fillS_ok (qs := vs.map fun x => (x.1 * m, m, x.2)) g3 (by
        simp only [List.map_map]
        have := congrArg (List.map (fun i => (i * m, m))) hv
        simpa [List.map_map, Function.comp_def] using this) (by simpa [List.map_map, Function.comp_def] using hs) hr
      rw [rb h4]
      exact ⟨_, rfl, .agg h5.1 h5.2⟩
    · cases h
  · cases h
def optV (o : Option Nat) (d : R Nat) : R Nat := match o with | none => d | some n => .ok n
theorem natO_ok {ts : Fr} {ta : T AV} (hF : FS C ts ta) {x : Option Operand} {K : Option Nat → Prop} (h : natO ts x K) : ∃ o, K o ∧ ∀ d : R Nat, optNat ta d x = optV o d ∧ (x = none ↔ o = none) := by
  unfold natO at h
  split at h
  · exact ⟨none, h, fun d => ⟨rfl, by simp⟩⟩
  · obtain ⟨v, h1, h2⟩ := so_ok h
    obtain ⟨u, h3, h4⟩ := sev_ok hF h1
    obtain ⟨n, h5, h6⟩ := natS_ok h2 h4
    refine ⟨some n, h6, fun d => ⟨?_, by simp⟩⟩
    simp only [optNat]
    rw [rb h3]; exact h5
end
end Go.Sy

namespace Go.Sy
open Go.Am Go.RowKit
universe u v
variable [Inhabited DrP]

section
variable {tab : Tab} {C : Cx} {h : SH} {a : AH}
theorem cutL_ok {α : Type u} {l : List α} {lo hi : Option Nat} {K : List α → Prop} (h : cutL l lo hi K) : lo.getD 0 ≤ hi.getD l.length ∧ hi.getD l.length ≤ l.length ∧ K ((l.drop (lo.getD 0)).take (hi.getD l.length - lo.getD 0)) := by
  unfold cutL at h
  split at h
  · simpa using h
  · rename_i a
    obtain ⟨h1, h2⟩ := ck_ok h
    have h1 := Nat.le_of_ble_eq_true h1
    refine ⟨by simpa using h1, by simp, ?_⟩
    simp only [Option.getD_some, Option.getD_none]
    rw [List.take_of_length_le (by simp)]
    exact h2
  · rename_i b
    obtain ⟨h1, h2⟩ := ck_ok h
    have h1 := Nat.le_of_ble_eq_true h1
    refine ⟨by simp, by simpa using h1, by simpa using h2⟩
  · rename_i a b
    obtain ⟨h1, h2⟩ := ck_ok h
    simp only [Bool.and_eq_true] at h1
    exact ⟨by simpa using Nat.le_of_ble_eq_true h1.1, by simpa using Nat.le_of_ble_eq_true h1.2, h2⟩
theorem lst_ok {X : Type} {L : List X} {enc : X → List SV} {v : AV} {Fz : Nat → Option AO} (hv : SimP Fz (.lst X L enc) v) (hL : L ≠ []) : ∃ b off cap cs e sz ext bk, v = .sl b off L.length cap ∧ CellsAt Fz b cs e sz ext bk ∧ 0 < sz ∧ off + L.length * sz ≤ cs.length ∧
    (∀ (i : Nat) x, L[i]? = some x → (enc x).length = sz) ∧ capOK cap off L.length sz ext ∧ ∀ (i : Nat) x (j : Nat) v, L[i]? = some x → (enc x)[j]? = some v → ∃ u, cs[off + i * sz + j]? = some u ∧ SimP Fz v u := by
  cases hv with
  | lst0 h0 _ => exact absurd (List.eq_nil_of_length_eq_zero h0) hL
  | lst b off cap cs e sz ext bk u hb hs hl hn hc h1 h2 => exact ⟨b, off, cap, cs, e, sz, ext, bk, rfl, hb, hs, hl, hn, hc, fun i x j v hx hv => ⟨_, h1 i x j v hx hv, h2 i x j v hx hv⟩⟩
theorem lst_mk {X : Type} {L : List X} {enc : X → List SV} {Fz : Nat → Option AO} (b off : Nat) (cap : Cap) (cs : List AV) (e : TypeId) (sz : Nat) (ext : Bool) (bk : BK) (n : Nat) (hn' : n = L.length)
    (hb : CellsAt Fz b cs e sz ext bk) (hs : 0 < sz) (hl : off + L.length * sz ≤ cs.length) (hn : ∀ (i : Nat) x, L[i]? = some x → (enc x).length = sz) (hc : capOK cap off L.length sz ext)
    (h1 : ∀ (i : Nat) x (j : Nat) v, L[i]? = some x → (enc x)[j]? = some v → ∃ u, cs[off + i * sz + j]? = some u ∧ SimP Fz v u) : SimP Fz (.lst X L enc) (.sl b off n cap) := by
  subst hn'
  refine .lst b off cap cs e sz ext bk (fun i j => (cs[off + i * sz + j]?).getD (.tup [])) hb hs hl hn hc ?_ ?_
  · intro i x j v hx hv
    obtain ⟨u, h2, _⟩ := h1 i x j v hx hv
    rw [h2]; rfl
  · intro i x j v hx hv
    obtain ⟨u, h2, h3⟩ := h1 i x j v hx hv
    rw [h2]; exact h3
theorem sliceL_ok {ta : T AV} {t e n : Nat} (hu : tab.und.get t = some (.slice e)) (hn : tab.siz.get e = some n) {X : Type} {L : List X} {enc : X → List SV} {v : AV} {Fz : Nat → Option AO} (hfz : ∀ i o, Fz i = some o → a.get i = some o) (hv : SimP Fz (.lst X L enc) v)
    (hlen : ∀ x : X, (enc x).length = n) {lo hi : Option Operand} {l u : Option Nat} (h1 : ∀ d : R Nat, optNat ta d lo = optV l d) (h2 : ∀ d : R Nat, optNat ta d hi = optV u d)
    (hle : l.getD 0 ≤ u.getD L.length) (hle2 : u.getD L.length ≤ L.length) : ∃ w, sliceOp tab ta a t v lo hi none = .ok (w, a) ∧ SimP Fz (.lst X ((L.drop (l.getD 0)).take (u.getD L.length - l.getD 0)) enc) w := by
  by_cases hL : 0 < L.length
  case neg =>
    have hL0 : L.length = 0 := by omega
    have o1 : optNat ta (.ok 0) lo = .ok (l.getD 0) := by rw [h1]; cases l <;> rfl
    have o2 : ∀ d, optNat ta (.ok d) hi = .ok (u.getD d) := by intro d; rw [h2]; cases u <;> rfl
    rw [hL0] at hle hle2
    have hu0 : u.getD 0 = 0 := by omega
    have hl0 : l.getD 0 = 0 := by omega
    have hr : ((L.drop (l.getD 0)).take (u.getD L.length - l.getD 0)).length = 0 := by simp; omega
    rw [hl0] at o1
    unfold sliceOp
    rw [rb (show und tab t = _ from ro hu)]
    cases hv with
    | lst0 h0 hv =>
      rcases hv with rfl | ⟨b, off, l1, n1, k, rfl⟩ | ⟨a', c, rfl⟩
      · refine ⟨.nils, ?_, .lst0 hr (.inl rfl)⟩
        simp only
        rw [rb (show siz tab e = .ok n from ro hn), rb o1, rb (o2 0), hu0]
        rfl
      · refine ⟨.emp b off l1 n1 k, ?_, .lst0 hr (.inr (.inl ⟨_, _, _, _, _, rfl⟩))⟩
        simp only
        rw [rb (show siz tab e = .ok n from ro hn), rb o1, rb (o2 0), hu0]
        rfl
      · refine ⟨.raw (.slice a' 0 c), ?_, .lst0 hr (.inr (.inr ⟨_, _, rfl⟩))⟩
        simp only
        rw [rb (show siz tab e = .ok n from ro hn), rb o1, rb (o2 0), hu0]
        rfl
    | lst b off cap cs e' sz ext bk w hb hs hl hn' hc h1' h2' =>
      obtain ⟨sz0, ext0, hb0, hx0⟩ := id hb
      have hcl := cellsAt_ok (hfz _ _ hb0)
      rw [hL0] at hc ⊢
      simp only
      cases cap with
      | lit m =>
        rw [rb (show capLow a b (.lit m) = .ok m from rfl), rb (show siz tab e = .ok n from ro hn), rb o1, rb (o2 0), hu0]
        simp only
        rw [rb (rc (by simp))]
        refine ⟨_, rfl, ?_⟩
        have : (SimP Fz (.lst X ((L.drop (l.getD 0)).take (0 - l.getD 0)) enc) (.sl b off ((L.drop (l.getD 0)).take (0 - l.getD 0)).length (.lit m))) := by
          refine .lst b off (.lit m) cs e' sz ext bk w hb hs (by simp [hL0] at *; omega) (fun i x hx => ?_) (by simp [capOK]) (fun i x j v hx => ?_) (fun i x j v hx => ?_)
          all_goals (simp at hx)
        simp at this ⊢
        exact this
      | tail k =>
        obtain ⟨hext, hoff⟩ := hc
        subst hext
        obtain ⟨hz1, hz2⟩ := hx0 rfl
        have hz1 := hz1.symm
        subst hz1
        subst hz2
        have hcap : capLow a b (.tail k) = .ok (cs.length / sz - k) := by
          simp only [capLow]
          rw [rb hcl]
          simp only
          rw [rb (rc (by simp only [Bool.true_and, Bool.not_eq_true']; exact beq_ne (by omega)))]
          rfl
        rw [rb hcap, rb (show siz tab e = .ok n from ro hn), rb o1, rb (o2 0), hu0]
        simp only
        rw [rb (rc (by simp))]
        refine ⟨_, rfl, ?_⟩
        have : (SimP Fz (.lst X ((L.drop (l.getD 0)).take (0 - l.getD 0)) enc) (.sl b off ((L.drop (l.getD 0)).take (0 - l.getD 0)).length (.tail k))) := by
          refine .lst b off (.tail k) cs e' sz true bk w hb hs (by simp [hL0] at *; omega) (fun i x hx => ?_) ⟨rfl, hoff⟩ (fun i x j v hx => ?_) (fun i x j v hx => ?_)
          all_goals (simp at hx)
        simp at this ⊢
        exact this
  case pos =>
    obtain ⟨b, off, cap, cs, e', sz, ext, bk, rfl, hb, hs, hl, hsz, hc, hcell⟩ := lst_ok hv (by rintro rfl; simp at hL)
    have hszn : sz = n := by
      rw [← hsz 0 _ (List.getElem?_eq_getElem hL), hlen]
    subst hszn
    have o1 : optNat ta (.ok 0) lo = .ok (l.getD 0) := by rw [h1]; cases l <;> rfl
    have o2 : ∀ d, optNat ta (.ok d) hi = .ok (u.getD d) := by intro d; rw [h2]; cases u <;> rfl
    obtain ⟨sz0, ext0, hb0, hx0⟩ := id hb
    have hcl := cellsAt_ok (hfz _ _ hb0)
    generalize l.getD 0 = i at *
    generalize hj : u.getD L.length = j at *
    have hLl : ((L.drop i).take (j - i)).length = j - i := by simp; omega
    have hget : ∀ (q : Nat) x, ((L.drop i).take (j - i))[q]? = some x → L[i + q]? = some x ∧ q < j - i := by
      intro q x hx
      rw [List.getElem?_take] at hx
      split at hx
      · rename_i hq
        rw [List.getElem?_drop] at hx
        exact ⟨hx, hq⟩
      · cases hx
    have hmul : ∀ q, off + i * sz + q * sz = off + (i + q) * sz := by intro q; rw [Nat.add_mul]; omega
    have hbound : off + i * sz + (j - i) * sz ≤ cs.length := by
      rw [hmul]
      have : (i + (j - i)) * sz ≤ L.length * sz := Nat.mul_le_mul_right _ (by omega)
      omega
    have mk : ∀ cap', capOK cap' (off + i * sz) (j - i) sz ext → SimP Fz (.lst X ((L.drop i).take (j - i)) enc) (.sl b (off + i * sz) (j - i) cap') := by
      intro cap' hcap
      refine lst_mk b (off + i * sz) cap' cs e' sz ext bk _ hLl.symm hb hs (by rw [hLl]; exact hbound) (fun q x hx => hsz _ x (hget q x hx).1) (by rw [hLl]; exact hcap) ?_
      intro q x k s hx hs'
      obtain ⟨w, g1, g2⟩ := hcell _ x k s (hget q x hx).1 hs'
      exact ⟨w, by rw [hmul]; exact g1, g2⟩
    have empty : j - i = 0 → ∀ w, (w = .nils ∨ (∃ b off l n k, w = .emp b off l n k) ∨ ∃ a c, w = .raw (.slice a 0 c)) → SimP Fz (.lst X ((L.drop i).take (j - i)) enc) w := fun h0 w hw => .lst0 (by rw [hLl, h0]) hw
    unfold sliceOp
    rw [rb (show und tab t = _ from ro hu)]
    simp only
    cases cap with
    | lit m =>
      have hcm : L.length ≤ m := hc
      rw [rb (show capLow a b (.lit m) = .ok m from rfl), rb (show siz tab e = .ok sz from ro hn), rb o1, rb (o2 _), hj]
      simp only
      rw [rb (rc (by simp only [Bool.and_eq_true, Nat.ble_eq]; omega))]
      refine ⟨_, rfl, ?_⟩
      by_cases hm : m = i
      · subst hm
        simp only [Nat.beq_refl, cond_true]
        have h0 : j - m = 0 := by omega
        rw [h0]
        refine lst_mk b off _ cs e' sz ext bk 0 (by simp) hb hs (by simp; omega) (fun q x hx => by simp at hx) (by simp [capOK]) (fun q x k s hx => by simp at hx)
      · rw [beq_ne hm]
        simp only [cond_false]
        exact mk _ (by simp only [capOK]; omega)
    | tail k =>
      obtain ⟨hext, hoff⟩ := hc
      subst hext
      obtain ⟨hz1, hz2⟩ := hx0 rfl
      have hz1 := hz1.symm
      subst hz1
      subst hz2
      have hcap : capLow a b (.tail k) = .ok (cs.length / sz - k) := by
        simp only [capLow]
        rw [rb hcl]
        simp only
        rw [rb (rc (by simp only [Bool.true_and, Bool.not_eq_true']; exact beq_ne (by omega)))]
        rfl
      have hge : L.length ≤ cs.length / sz - k := by
        have : (k + L.length) * sz ≤ cs.length := by rw [Nat.add_mul, ← hoff]; exact hl
        have := (Nat.le_div_iff_mul_le hs).2 this
        omega
      rw [rb hcap, rb (show siz tab e = .ok sz from ro hn), rb o1, rb (o2 _), hj]
      simp only
      rw [rb (rc (by simp only [Bool.and_eq_true, Nat.ble_eq]; omega))]
      by_cases hi0 : i = 0
      · subst hi0
        simp only [Nat.beq_refl, cond_true]
        have := mk (.tail k) ⟨rfl, by simpa using hoff⟩
        simp only [Nat.zero_mul, Nat.add_zero, Nat.sub_zero] at this
        exact ⟨_, rfl, by simpa using this⟩
      · rw [beq_ne hi0]
        simp only [cond_false]
        by_cases hlt : i < cs.length / sz - k
        · rw [show Nat.blt i (cs.length / sz - k) = true from by simpa using hlt]
          simp only [cond_true]
          exact ⟨_, rfl, mk _ ⟨rfl, by rw [Nat.add_mul, hoff]⟩⟩
        · rw [show Nat.blt i (cs.length / sz - k) = false from Bool.eq_false_iff.2 fun e => hlt (by simpa using e)]
          simp only [cond_false]
          exact ⟨_, rfl, empty (by omega) _ (.inr (.inl ⟨_, _, _, _, _, rfl⟩))⟩
  end
  end Go.Sy

namespace Go.Sy
open Go.Am Go.RowKit
universe u v
variable [Inhabited DrP]

section
variable {tab : Tab} {view : TypeId → Option View} {C : Cx} {s : St} {ta : T AV} {a : AH}
def Does (tab : Tab) (C : Cx) (s : St) (ta : T AV) (a : AH) (K : SV → St → Prop) (r : R (AV × AH)) : Prop := ∃ sv s' v a', K sv s' ∧ r = .ok (v, a') ∧ Res tab C s ta a sv s' v a'
theorem Does.same {K : SV → St → Prop} (hF : FS C s.ts ta) (H : HS tab C s.h a) {sv : SV} {v : AV} (hv : SimV C sv v) (hk : K sv s) : Does tab C s ta a K (.ok (v, a)) := ⟨sv, s, v, a, hk, rfl, Res.same hF H hv⟩
theorem Does.val {K : SV → St → Prop} (hF : FS C s.ts ta) (H : HS tab C s.h a) {r : R AV} (h : Val C (fun v => K v s) r) : Does tab C s ta a K (do .ok (← r, a)) := by
  obtain ⟨sv, v, h1, h2, h3⟩ := h
  rw [rb h1]
  exact Does.same hF H h2 h3

theorem sliceS_ok (hF : FS C s.ts ta) (H : HS tab C s.h a) {t : TypeId} {x : SV} {v : AV} (hv : SimV C x v) {lo hi : Option Operand} {K : SV → St → Prop} (h : sliceS tab s t x lo hi K) : Does tab C s ta a K (sliceOp tab ta a t v lo hi none) := by
  unfold sliceS at h
  obtain ⟨l, h1, hl⟩ := natO_ok hF h
  obtain ⟨u, h2, hu⟩ := natO_ok hF h1
  clear h h1
  have h := h2
  clear h2
  have o1 : ∀ d : R Nat, optNat ta d lo = optV l d := fun d => (hl d).1
  have o2 : ∀ d : R Nat, optNat ta d hi = optV u d := fun d => (hu d).1
  clear hl hu
  split at h
  · rename_i c hg
    rw [str_ok hv]
    obtain ⟨h1, h2, h3⟩ := cutL_ok h
    unfold sliceOp
    rw [rb (show und tab t = _ from ro hg)]
    simp only
    rw [rb (show R.check "slice: max" (none : Option Operand).isNone = .ok () from rfl), rb (show optNat ta (.ok 0) lo = .ok (l.getD 0) from by rw [o1]; cases l <;> rfl), rb (show optNat ta (.ok c.length) hi = .ok (u.getD c.length) from by rw [o2]; cases u <;> rfl),
      rb (rc (by simp only [Bool.and_eq_true, Nat.ble_eq]; omega))]
    exact Does.same hF H (.pure (.str _)) h3
  · rename_i e X L enc hg
    split at h
    · rename_i n hn
      obtain ⟨hlen, h⟩ := h
      obtain ⟨h1, h2, h3⟩ := cutL_ok h
      obtain ⟨w, h4, h5⟩ := sliceL_ok hg hn H.fz (pure_ok hv rfl) hlen o1 o2 h1 h2
      rw [h4]
      exact Does.same hF H (.pure h5) h3
    · exact h.elim
  · rename_i e b hg
    split at h
    · rename_i X L enc t' n hb hn
      obtain ⟨hlen, h⟩ := h
      obtain ⟨h1, h2, h3⟩ := cutL_ok h
      obtain ⟨C', e1, e2, e3, e4, e5, e6⟩ := St.frz_ok hF H hb
      obtain ⟨w, h4, h5⟩ := sliceL_ok hg hn e3.fz (e5 v hv) hlen o1 o2 h1 h2
      exact ⟨_, _, w, a, h3, h4, ⟨C', _, e1, e2, .pure h5, e3, e4, e6.keep _⟩, Grow.refl a⟩
    · exact h.elim
  · rename_i e b off len cap hg
    split at h
    · rename_i n hn
      obtain ⟨h1, h2⟩ := ck_ok h
      simp only [Bool.and_eq_true] at h1
      cases hv with
      | pure hv => cases hv
      | sl hI =>
        unfold sliceOp
        rw [rb (show und tab t = _ from ro hg)]
        simp only
        rw [rb (show capLow a _ (.lit cap) = .ok cap from rfl), rb (show siz tab e = .ok n from ro hn), rb (show optNat ta (.ok 0) lo = .ok (l.getD 0) from by rw [o1]; cases l <;> rfl),
          rb (show optNat ta (.ok len) hi = .ok (u.getD len) from by rw [o2]; cases u <;> rfl),
          rb (rc (by simp only [Bool.and_eq_true]; exact h1))]
        exact Does.same hF H (.sl hI) h2
    · exact h.elim
  · exact h.elim

theorem HS.fresh (H : HS tab C s.h a) (ca : List AV) (e : TypeId) (sz : Nat) (ext : Bool) (bk : BK) : ∃ C' : Cx, C.le C' ∧ C'.Fz a.next = some (.cells ca e sz ext bk) ∧ HS tab C' s.h (a.new (.cells ca e sz ext bk)) := by
  classical
  let C' : Cx := { C with Fz := fun i => if i = a.next then some (.cells ca e sz ext bk) else C.Fz i }
  have hfz : ∀ i o, C.Fz i = some o → C'.Fz i = some o := by
    intro i o hi
    have := H.wf _ _ (H.fz i o hi)
    simp only [C']
    rw [if_neg (by omega)]; exact hi
  have hle : C.le C' := ⟨fun _ _ h => h, hfz⟩
  have hblk : ∀ p o I, s.h.get p = some o → C.ρ p = some I → I.cap.isSome → I.β ≠ a.next := by
    intro p o I hp hI hc
    obtain ⟨b, hb⟩ := (H.at_ hp hI).live hc
    have := H.wf _ _ hb
    omega
  refine ⟨C', hle, by simp [C'], ⟨?_, H.inj, ?_, ?_, H.lt, ?_⟩⟩
  · intro p o hp
    obtain ⟨I, hI, ho⟩ := H.obj p o hp
    refine ⟨I, hI, ?_⟩
    have ho' := ho.le hle
    by_cases hc : I.cap.isSome
    · exact ho'.congr (by rw [AH.get_new, if_neg (hblk p o I hp hI hc)])
    · cases o with
      | cells cs t => exact absurd ho.1 hc
      | arr X L enc t =>
        obtain ⟨g1, g2, g3, g4, g5⟩ := ho'
        refine ⟨g1, g2, g3, g4, ?_⟩
        cases hcap : I.cap with
        | none => rw [hcap] at g5; exact g5
        | some c => rw [hcap] at hc; simp at hc
  · intro i o hi
    simp only [C'] at hi
    rw [AH.get_new]
    split at hi
    · rename_i e; rw [if_pos e]; exact hi
    · rename_i e; rw [if_neg e]; exact H.fz i o hi
  · intro p o I hp hI hc
    simp only [C']
    rw [if_neg (hblk p o I hp hI hc)]
    exact H.dj p o I hp hI hc
  · intro i o hi
    rw [AH.get_new] at hi
    simp only [AH.next_new]
    split at hi
    · omega
    · have := H.wf i o hi; omega
theorem newRow_ok {e n : Nat} (hn : tab.siz.get e = some n) (cs : List AV) (ext : Bool) (bk : BK) : Am.newRow tab a e cs ext bk = .ok (a.new (.cells cs e n ext bk), a.next) := by
  unfold Am.newRow
  rw [rb (show siz tab e = .ok n from ro hn)]
theorem encB_get {c : List UInt8} {i : Nat} {x : UInt8} (hx : c[i]? = some x) {j : Nat} {v : SV} (hv : (encB x)[j]? = some v) : j = 0 ∧ v = .int .u8 (.ofNat x.toNat) := by
  cases j with
  | zero => simp [encB] at hv; exact ⟨rfl, hv.symm⟩
  | succ j => simp [encB] at hv
theorem bytesOf_ok : ∀ {c : List UInt8}, bytesOf (c.map fun b => AV.int .u8 (.ofNat b.toNat)) = .ok c := by
  intro c
  induction c with
  | nil => rfl
  | cons x c ih =>
    simp only [List.map_cons, bytesOf]
    rw [rb ih]
    simp
theorem bytes_read {Fz : Nat → Option AO} (hfz : ∀ i o, Fz i = some o → a.get i = some o) {c : List UInt8} {v : AV} (hv : SimP Fz (.lst UInt8 c encB) v) :
    v = .nils ∧ c = [] ∨ ((∃ b off l n k, v = .emp b off l n k) ∨ ∃ a c, v = .raw (.slice a 0 c)) ∧ c = [] ∨ ∃ b off cap, v = .sl b off c.length cap ∧ readN a b off c.length = .ok (c.map fun b => AV.int .u8 (.ofNat b.toNat)) := by
  cases hv with
  | lst0 h0 hv =>
    have := List.eq_nil_of_length_eq_zero h0
    rcases hv with rfl | hv
    · exact .inl ⟨rfl, this⟩
    · exact .inr (.inl ⟨hv, this⟩)
  | lst b off cap cs e sz ext bk u hb hs hl hn hc h1 h2 =>
    refine .inr (.inr ⟨b, off, cap, rfl, ?_⟩)
    obtain ⟨sz0, ext0, hb, hx0⟩ := hb
    have hsz : c ≠ [] → sz = 1 := by
      intro hc0
      cases c with
      | nil => exact absurd rfl hc0
      | cons x c => rw [← hn 0 x rfl]; rfl
    unfold readN
    rw [rb (cellsAt_ok (hfz _ _ hb))]
    simp only
    have hle : off + c.length ≤ cs.length := by
      by_cases h0 : c = []
      · subst h0; simp at hl ⊢; exact hl
      · rw [hsz h0] at hl; omega
    rw [rb (rc (by simp only [Nat.ble_eq]; exact hle))]
    congr 1
    apply List.ext_getElem?
    intro i
    rw [List.getElem?_take, List.getElem?_map]
    by_cases hi : i < c.length
    · rw [if_pos hi, List.getElem?_drop]
      have hx := List.getElem?_eq_getElem hi
      have h0 : c ≠ [] := by rintro rfl; simp at hi
      have g1 := h1 i _ 0 _ hx rfl
      have g2 := h2 i _ 0 _ hx rfl
      rw [hsz h0] at g1
      simp only [Nat.mul_one, Nat.add_zero] at g1
      rw [g1, hx]
      cases g2h : u i 0 with
      | int k n =>
        rw [g2h] at g2
        cases g2
        rfl
      | _ => rw [g2h] at g2; cases g2
    · rw [if_neg hi, List.getElem?_eq_none (by omega)]; rfl

theorem convS_ok (hF : FS C s.ts ta) (H : HS tab C s.h a) {src dst : TypeId} {x : SV} {v : AV} (hv : SimV C x v) {K : SV → St → Prop} (h : convS tab s src dst x K) : Does tab C s ta a K (convertAll tab a src dst v) := by
  have hnu : ∀ {d : TypeDesc}, tab.und.get dst = some d → (d ≠ .unsafePointer) → (∀ u, d ≠ .pointer u) → convertAll tab a src dst v = Am.convert tab a src dst v := by
    intro d hd h1 h2
    unfold convertAll
    rw [rb (show und tab dst = _ from ro hd)]
    cases d <;> first | rfl | exact absurd rfl h1 | exact absurd rfl (h2 _)
  unfold convS at h
  split at h
  · rename_i d k j n hs hd
    rw [hnu hd (by simp) (by simp), int_ok hv]
    unfold Am.convert
    rw [rb (show und tab src = _ from ro hs), rb (show und tab dst = _ from ro hd)]
    exact Does.same hF H (.pure (.int _ _)) h
  · rename_i d c hs hd
    rw [hnu hd (by simp) (by simp), str_ok hv]
    unfold Am.convert
    rw [rb (show und tab src = _ from ro hs), rb (show und tab dst = _ from ro hd)]
    exact Does.same hF H (.pure (.str _)) h
  · rename_i d e c hs hd
    split at h
    · rename_i he hz
      rw [hnu hd (by simp) (by simp), str_ok hv]
      unfold Am.convert
      rw [rb (show und tab src = _ from ro hs), rb (show und tab dst = _ from ro hd)]
      obtain ⟨C', g1, g2, g3⟩ := H.fresh (ofBytes c) e 1 true .mark
      have hsim : SimP C'.Fz (.lst UInt8 c encB) (.sl a.next 0 c.length (.tail 0)) := by
        refine lst_mk a.next 0 _ (ofBytes c) e 1 true .mark _ rfl (.of g2) (by omega) (by simp [ofBytes]) (fun i x _ => rfl) ⟨rfl, rfl⟩ ?_
        intro i x j w hx hw
        obtain ⟨rfl, rfl⟩ := encB_get hx hw
        refine ⟨_, ?_, .int _ _⟩
        simp [ofBytes, hx]
      have hr : Am.newRow tab a e (ofBytes c) true .mark = .ok (a.new (.cells (ofBytes c) e 1 true .mark), a.next) := newRow_ok hz _ _ _
      have : Does tab C s ta a K (.ok (.sl a.next 0 c.length (.tail 0), a.new (.cells (ofBytes c) e 1 true .mark))) :=
        ⟨_, s, _, _, h, rfl, ⟨C', [], by simp, g1.tr, .pure hsim, g3, hF.le g1, Keep.new H _ _ g1 (fun p o h => ⟨o, h⟩)⟩, Grow.new a _⟩
      cases d <;> simp only <;> (rw [rb (show und tab e = _ from ro he)]; simp only; rw [rb (show siz tab e = .ok 1 from ro hz), rb (show R.check "convert: size" (Nat.beq 1 1) = .ok () from rfl), rb hr]; exact this)
    · exact h.elim
  · rename_i e hs hd
    split at h
    · rename_i he
      rw [hnu hd (by simp) (by simp), nils_ok hv]
      unfold Am.convert
      rw [rb (show und tab src = _ from ro hs), rb (show und tab dst = _ from ro hd)]
      simp only
      rw [rb (show und tab e = _ from ro he)]
      exact Does.same hF H (.pure (.str _)) h
    · exact h.elim
  · rename_i e X L enc hs hd
    split at h
    · rename_i he
      obtain ⟨c, h1, h2⟩ := h
      rw [h1] at hv
      rw [hnu hd (by simp) (by simp)]
      unfold Am.convert
      rw [rb (show und tab src = _ from ro hs), rb (show und tab dst = _ from ro hd)]
      rcases bytes_read H.fz (pure_ok hv rfl) with ⟨rfl, rfl⟩ | ⟨⟨b, off, l, n, k, rfl⟩ | ⟨a1, c1, rfl⟩, rfl⟩ | ⟨b, off, cap, rfl, hr⟩
      · simp only; rw [rb (show und tab e = _ from ro he)]; exact Does.same hF H (.pure (.str _)) h2
      · simp only; rw [rb (show und tab e = _ from ro he)]; exact Does.same hF H (.pure (.str _)) h2
      · simp only; rw [rb (show und tab e = _ from ro he)]; exact Does.same hF H (.pure (.str _)) h2
      · simp only; rw [rb (show und tab e = _ from ro he)]; simp only; rw [rb hr, rb bytesOf_ok]; exact Does.same hF H (.pure (.str _)) h2
    · exact h.elim
  · rename_i e b hs hd
    split at h
    · rename_i X L enc t' he hb
      obtain ⟨c, h1, h2⟩ := h
      obtain ⟨C', e1, e2, e3, e4, e5, _⟩ := St.frz_ok hF H hb
      have hv' := e5 v hv
      rw [h1] at hv'
      rw [hnu hd (by simp) (by simp)]
      unfold Am.convert
      rw [rb (show und tab src = _ from ro hs), rb (show und tab dst = _ from ro hd)]
      rcases bytes_read e3.fz hv' with ⟨rfl, rfl⟩ | ⟨⟨b, off, l, n, k, rfl⟩ | ⟨a1, c1, rfl⟩, rfl⟩ | ⟨b, off, cap, rfl, hr⟩
      · simp only; rw [rb (show und tab e = _ from ro he)]; exact Does.same hF H (.pure (.str _)) h2
      · simp only; rw [rb (show und tab e = _ from ro he)]; exact Does.same hF H (.pure (.str _)) h2
      · simp only; rw [rb (show und tab e = _ from ro he)]; exact Does.same hF H (.pure (.str _)) h2
      · simp only; rw [rb (show und tab e = _ from ro he)]; simp only; rw [rb hr, rb bytesOf_ok]; exact Does.same hF H (.pure (.str _)) h2
    · exact h.elim
  · rename_i e b off len cap hs hd
    split at h
    · rename_i cs t' he hb
      obtain ⟨hle, c, h1, h2⟩ := ck_ok h
      have hle := Nat.le_of_ble_eq_true hle
      rw [hnu hd (by simp) (by simp)]
      cases hv with
      | pure hv => cases hv
      | @sl _ _ _ _ I hI =>
        obtain ⟨_, ca, sz, g1, g2, _⟩ := H.at_ hb hI
        have hcl := g2.1
        have hr : readN a I.β off len = .ok (c.map fun b => AV.int .u8 (.ofNat b.toNat)) := by
          unfold readN
          rw [rb (cellsAt_ok g1)]
          simp only
          rw [rb (rc (by simp only [Nat.ble_eq]; omega))]
          congr 1
          apply List.ext_getElem?
          intro i
          have hS := (g2.drop off).take len
          rw [h1] at hS
          cases hq : (encBs c)[i]? with
          | none =>
            have hn := List.getElem?_eq_none_iff.1 hq
            rw [List.getElem?_eq_none (by rw [← hS.1]; exact hn), List.getElem?_eq_none (by simpa [encBs] using hn)]
          | some v =>
            have hlt := (List.getElem?_eq_some_iff.1 hq).1
            have hlt2 : i < (List.take len (List.drop off ca)).length := by rw [← hS.1]; exact hlt
            have hsv := hS.2 i v _ hq (List.getElem?_eq_getElem hlt2)
            unfold encBs at hq
            rw [List.getElem?_map] at hq ⊢
            obtain ⟨b', hb', rfl⟩ := Option.map_eq_some_iff.1 hq
            rw [List.getElem?_eq_getElem hlt2, int_ok hsv, hb']
            rfl
        unfold Am.convert
        rw [rb (show und tab src = _ from ro hs), rb (show und tab dst = _ from ro hd)]
        simp only
        rw [rb (show und tab e = _ from ro he)]
        simp only
        rw [rb hr, rb bytesOf_ok]
        exact Does.same hF H (.pure (.str _)) h2
    · exact h.elim
  · exact h.elim
end
end Go.Sy

namespace Go.Sy
open Go.Am Go.RowKit
universe u v
variable [Inhabited DrP]

section
variable {tab : Tab} {view : TypeId → Option View} {C : Cx} {s : St} {ta : T AV} {a : AH} {h : SH}

structure Told (Fz : Nat → Option AO) (X : Type) (l : List X) (enc : X → List SV) (n : Nat) (news : List AV) : Prop where
  len : news.length = l.length * n
  each : ∀ (i : Nat) x, l[i]? = some x → (enc x).length = n
  cell : ∀ (i : Nat) x (j : Nat) v, l[i]? = some x → (enc x)[j]? = some v → ∃ u, news[i * n + j]? = some u ∧ SimP Fz v u
  one : news.all oneCell = true
theorem Told.mono {Fz Fz' : Nat → Option AO} (hf : ∀ i o, Fz i = some o → Fz' i = some o) {X : Type} {l : List X} {enc : X → List SV} {n : Nat} {news : List AV} (h : Told Fz X l enc n news) : Told Fz' X l enc n news :=
  ⟨h.len, h.each, fun i x j v hx hv => by obtain ⟨u, h1, h2⟩ := h.cell i x j v hx hv; exact ⟨u, h1, h2.mono hf⟩, h.one⟩
theorem isPure_scalar {s : SV} (h : isPure s = true) : isScalar s = true := by cases s <;> first | rfl | cases h
theorem pureP_one {Fz : Nat → Option AO} {s : SV} {v : AV} (h : SimP Fz s v) (hp : isPure s = true) : oneCell v = true := scalar_ok (C := ⟨fun _ => none, Fz⟩) (.pure h) (isPure_scalar hp)

theorem all_cells {news : List AV} {n : Nat} (hn : n ≠ 0) {m : Nat} (hl : news.length = m * n) (h : ∀ i j, i < m → j < n → ∀ u, news[i * n + j]? = some u → oneCell u = true) : news.all oneCell = true := by
  rw [List.all_eq_true]
  intro v hv
  obtain ⟨q, hq⟩ := List.mem_iff_getElem?.1 hv
  have hlt : q < m * n := by rw [← hl]; exact (List.getElem?_eq_some_iff.1 hq).1
  have h1 : q / n < m := by
    apply (Nat.div_lt_iff_lt_mul (by omega)).2; exact hlt
  have h2 : q % n < n := Nat.mod_lt _ (by omega)
  refine h (q / n) (q % n) h1 h2 v ?_
  rw [Nat.mul_comm, Nat.div_add_mod]; exact hq

theorem source_lst {X : Type} {L : List X} {enc : X → List SV} {v : AV} {Fz : Nat → Option AO} {n : Nat} (hfz : ∀ i o, Fz i = some o → a.get i = some o) (hv : SimP Fz (.lst X L enc) v) (hn : n ≠ 0) (he : ∀ x : X, (enc x).length = n ∧ (enc x).all isPure = true) :
    ∃ news, source a n v = .ok (L.length, news) ∧ Told Fz X L enc n news := by
  by_cases hL : L = []
  · subst hL
    have ht : Told Fz X [] enc n [] := ⟨by simp, fun i x hx => by simp at hx, fun i x j v hx => by simp at hx, rfl⟩
    cases hv with
    | lst0 h0 hv =>
      rcases hv with rfl | ⟨b, off, l, k, c, rfl⟩ | ⟨a, c, rfl⟩
      · exact ⟨[], rfl, ht⟩
      · exact ⟨[], rfl, ht⟩
      · exact ⟨[], rfl, ht⟩
    | lst b off cap cs e sz ext bk u hb hs hl hsz hc h1 h2 =>
      obtain ⟨sz0, ext0, hb, hx0⟩ := hb
      refine ⟨[], ?_, ht⟩
      simp only [source, List.length_nil, Nat.zero_mul]
      unfold readN
      rw [rb (cellsAt_ok (hfz _ _ hb))]
      simp only
      rw [rb (rc (by simp only [Nat.ble_eq]; simpa using hl))]
      simp
      rfl
  · obtain ⟨b, off, cap, cs, e', sz, ext, bk, rfl, hb, hs, hl, hsz, hc, hcell⟩ := lst_ok hv hL
    obtain ⟨sz0, ext0, hb, hx0⟩ := hb
    have hszn : sz = n := by
      obtain ⟨x, hx⟩ : ∃ x, L[0]? = some x := ⟨L[0]'(by cases L with | nil => exact absurd rfl hL | cons => simp), by simp⟩
      rw [← hsz 0 x hx, (he x).1]
    subst hszn
    have hr : readN a b off (L.length * sz) = .ok ((cs.drop off).take (L.length * sz)) := by
      unfold readN
      rw [rb (cellsAt_ok (hfz _ _ hb))]
      simp only
      rw [rb (rc (by simp only [Nat.ble_eq]; exact hl))]
    have hlen : ((cs.drop off).take (L.length * sz)).length = L.length * sz := by simp; omega
    have hget : ∀ (i j : Nat), i < L.length → j < sz → ((cs.drop off).take (L.length * sz))[i * sz + j]? = cs[off + i * sz + j]? := by
      intro i j hi hj
      rw [List.getElem?_take, if_pos, List.getElem?_drop, Nat.add_assoc]
      calc i * sz + j < i * sz + sz := by omega
        _ = (i + 1) * sz := by rw [Nat.add_mul, Nat.one_mul]
        _ ≤ L.length * sz := Nat.mul_le_mul_right _ hi
    have hcell' : ∀ (i : Nat) x (j : Nat) v, L[i]? = some x → (enc x)[j]? = some v → ∃ u, ((cs.drop off).take (L.length * sz))[i * sz + j]? = some u ∧ SimP Fz v u := by
      intro i x j v hx hv
      obtain ⟨u, h1, h2⟩ := hcell i x j v hx hv
      refine ⟨u, ?_, h2⟩
      rw [hget i j (List.getElem?_eq_some_iff.1 hx).1 (by rw [← (he x).1]; exact (List.getElem?_eq_some_iff.1 hv).1)]
      exact h1
    refine ⟨_, ?_, hlen, hsz, hcell', all_cells (by omega) hlen ?_⟩
    · simp only [source]
      rw [rb hr]
    · intro i j hi hj u hu
      have hx := List.getElem?_eq_getElem hi
      have hjl : j < (enc L[i]).length := by rw [(he _).1]; exact hj
      have hv := List.getElem?_eq_getElem hjl
      obtain ⟨w, h1, h2⟩ := hcell' i _ j _ hx hv
      rw [hu] at h1; cases h1
      exact pureP_one h2 (List.all_eq_true.1 (he L[i]).2 _ (List.getElem_mem hjl))

theorem chunk_get (n : Nat) : ∀ (m : Nat) (l : List SV) (i : Nat), i < m → (chunk n m l)[i]? = some ((l.drop (i * n)).take n) := by
  intro m
  induction m with
  | zero => intro l i h; omega
  | succ m ih =>
    intro l i h
    cases i with
    | zero => simp [chunk]
    | succ i =>
      simp only [chunk, List.getElem?_cons_succ]
      rw [ih _ _ (by omega), List.drop_drop, Nat.add_mul, Nat.one_mul, Nat.add_comm]
theorem chunk_len (n : Nat) : ∀ (m : Nat) (l : List SV), (chunk n m l).length = m := by
  intro m
  induction m with
  | zero => intro l; rfl
  | succ m ih => intro l; simp [chunk, ih]
theorem exL_ok {X : Type} {enc : X → List SV} : ∀ {c : List (List SV)} {K : List X → Prop}, exL enc c K → ∃ l, l.length = c.length ∧ (∀ (i : Nat) x q, l[i]? = some x → c[i]? = some q → enc x = q) ∧ K l := by
  intro c
  induction c with
  | nil => intro K h; exact ⟨[], rfl, fun i x q h => by simp at h, h⟩
  | cons q c ih =>
    intro K h
    obtain ⟨x, hx, h⟩ := h
    obtain ⟨l, h1, h2, h3⟩ := ih h
    refine ⟨x :: l, by simp [h1], fun i y r hy hr => ?_, h3⟩
    cases i with
    | zero => simp at hy hr; subst hy; subst hr; exact hx
    | succ i => exact h2 i y r (by simpa using hy) (by simpa using hr)
theorem told_chunks {X : Type} {enc : X → List SV} {n m : Nat} (hn : n ≠ 0) {cs : List SV} {ca : List AV} (hc : SimL C cs ca) (hl : cs.length = m * n) (hp : cs.all isPure = true) {l : List X} (hll : l.length = m)
    (he : ∀ (i : Nat) x q, l[i]? = some x → (chunk n m cs)[i]? = some q → enc x = q) : Told C.Fz X l enc n ca := by
  have hsub : ∀ i, i < m → i * n + n ≤ m * n := by
    intro i hi
    calc i * n + n = (i + 1) * n := by rw [Nat.add_mul, Nat.one_mul]
      _ ≤ m * n := Nat.mul_le_mul_right _ hi
  refine ⟨by rw [← hc.1, hl, hll], ?_, ?_, ?_⟩
  · intro i x hx
    have hi : i < m := by rw [← hll]; exact (List.getElem?_eq_some_iff.1 hx).1
    rw [he i x _ hx (chunk_get n m cs i hi)]
    have := hsub i hi
    simp; omega
  · intro i x j v hx hv
    have hi : i < m := by rw [← hll]; exact (List.getElem?_eq_some_iff.1 hx).1
    rw [he i x _ hx (chunk_get n m cs i hi), List.getElem?_take] at hv
    split at hv
    · rename_i hj
      rw [List.getElem?_drop] at hv
      obtain ⟨u, h1, h2⟩ := hc.get hv
      exact ⟨u, h1, pure_ok h2 (List.all_eq_true.1 hp _ (List.mem_of_getElem? hv))⟩
    · cases hv
  · refine scalars_ok hc ?_
    rw [List.all_eq_true] at hp ⊢
    exact fun x hx => isPure_scalar (hp x hx)

theorem row_told {X : Type} {L M : List X} {enc : X → List SV} {n : Nat} {ca news : List AV} {Fz : Nat → Option AO} (hl : ca.length = L.length * n) (hL : ∀ (i : Nat) x, L[i]? = some x → (enc x).length = n)
    (hc : ∀ (i : Nat) x (j : Nat) v, L[i]? = some x → (enc x)[j]? = some v → ∃ u, ca[i * n + j]? = some u ∧ SimP Fz v u) (hM : Told Fz X M enc n news) :
    (ca ++ news).length = (L ++ M).length * n ∧ (∀ (i : Nat) x, (L ++ M)[i]? = some x → (enc x).length = n) ∧
      ∀ (i : Nat) x (j : Nat) v, (L ++ M)[i]? = some x → (enc x)[j]? = some v → ∃ u, (ca ++ news)[i * n + j]? = some u ∧ SimP Fz v u := by
  have hlt : ∀ i j, i < L.length → j < n → i * n + j < L.length * n := by
    intro i j hi hj
    calc i * n + j < (i + 1) * n := by rw [Nat.add_mul, Nat.one_mul]; omega
      _ ≤ L.length * n := Nat.mul_le_mul_right _ hi
  refine ⟨by rw [List.length_append, List.length_append, hl, hM.len, Nat.add_mul], ?_, ?_⟩
  · intro i x hx
    by_cases hi : i < L.length
    · rw [List.getElem?_append_left hi] at hx; exact hL i x hx
    · rw [List.getElem?_append_right (by omega)] at hx; exact hM.each _ x hx
  · intro i x j v hx hv
    by_cases hi : i < L.length
    · rw [List.getElem?_append_left hi] at hx
      have hj : j < n := by rw [← hL i x hx]; exact (List.getElem?_eq_some_iff.1 hv).1
      obtain ⟨u, h1, h2⟩ := hc i x j v hx hv
      exact ⟨u, by rw [List.getElem?_append_left (by rw [hl]; exact hlt i j hi hj)]; exact h1, h2⟩
    · rw [List.getElem?_append_right (by omega)] at hx
      obtain ⟨u, h1, h2⟩ := hM.cell _ x j v hx hv
      refine ⟨u, ?_, h2⟩
      have hge : L.length * n ≤ i * n := Nat.mul_le_mul_right _ (by omega)
      rw [List.getElem?_append_right (by rw [hl]; omega), hl]
      rw [Nat.sub_mul] at h1
      rw [← h1]; congr 1; omega

def roomOK (by_ m : Nat) : Prop := (Nat.ble (m * by_) 16777216 && Nat.ble m 16777216) = true
theorem appendOwn_ok (H : HS tab C h a) {d : Nat} {X : Type} {L M : List X} {enc : X → List SV} {e n by_ : Nat} {u : AV} {news : List AV} (hd : h.get d = some (.arr X L enc e)) (hv : SimV C (.own d) u) (hn : tab.siz.get e = some n) (hn0 : n ≠ 0)
    (hz : zeroOk tab e n = .ok ()) (hroom : roomOK by_ (L.length + M.length)) (hM : Told C.Fz X M enc n news) :
    ∃ I v a', Am.appendOp tab a e n by_ u M.length news = .ok (v, a') ∧ Turns C (.kill d) (C.put d I) ∧ HS tab (C.put d I) ⟨h.next, (d, some (.arr X (L ++ M) enc e)) :: onH (.kill d) h.os⟩ a' ∧ SimV (C.put d I) (.own d) v ∧ Grow a a' ∧ Keep C h a [.kill d, .mod d] (C.put d I) ⟨h.next, (d, some (.arr X (L ++ M) enc e)) :: onH (.kill d) h.os⟩ a' := by
  have hpk : ∀ (I : BI) (o2 : SO) p o J, h.get p = some o → C.ρ p = some J → p ≠ d → ∃ o', (SH.mk h.next ((d, some o2) :: onH (.kill d) h.os)).get p = some o' ∧ (C.put d I).ρ p = some J := by
    intro I o2 p o J hp hJ hpd
    refine ⟨o.on (.kill d), ?_, by rw [Cx.put_ne _ _ hpd]; exact hJ⟩
    have h1 := get_onH (.kill d) h.next h.os p
    simp only [SH.get, look_cons, if_neg hpd] at h1 hp ⊢
    rw [h1, hp]; rfl
  obtain ⟨I0, hI0, ho⟩ := H.obj d _ hd
  have ho' := ho
  obtain ⟨g1, g2, g3, g4, g5⟩ := ho
  have hsz : I0.sz = n := by rw [hn] at g1; exact (Option.some.inj g1).symm
  have hlt : ∀ b i, C.Fz i = some b → i < a.next := fun b i hi => H.wf _ _ (H.fz _ _ hi)
  -- no element comes
  by_cases hm : M.length = 0
  · have hM0 := List.eq_nil_of_length_eq_zero hm
    subst hM0
    have hnews : news = [] := List.eq_nil_of_length_eq_zero (by rw [hM.len]; simp)
    subst hnews
    rw [List.append_nil]
    obtain ⟨hT, H'⟩ := H.renew hd hI0 I0 (o := .arr X L enc e) (a' := a) (fun i b _ h => h) H.wf (fun hc => .inr ⟨hc, rfl⟩) (Nat.le_refl _) (fun hT => by
      have := ho'.turns hT; exact this)
    refine ⟨I0, u, a, ?_, hT, H', ?_, Grow.refl a, fun p o J hp hJ hc hnd => ⟨rfl, .inl (hpk I0 _ p o J hp hJ (fun e => hnd (by simp [modded, e])))⟩⟩
    · cases hv with
      | pure hv => cases hv
      | own0 hI hc => simp [Am.appendOp]
      | own hI hc =>
        rw [hI0] at hI; cases hI
        rw [hc] at g5
        obtain ⟨ca, ext, bk, k1, k2, k3, k4, k5⟩ := g5
        rename_i c'
        have hlow : capLow a I0.β c' = .ok (I0.len) := by
          rcases k4 with ⟨rfl, rfl⟩ | ⟨rfl, h0⟩
          · simp only [capLow]
            rw [rb (cellsAt_ok k1)]
            simp only
            rw [rb (rc (by simp only [Bool.true_and, Bool.not_eq_true']; exact beq_ne (by omega)))]
            simp only [Nat.sub_zero]
            rw [k3, g3]
            congr 1
            exact Nat.mul_div_cancel _ (by omega)
          · rw [show capLow a I0.β (.lit 0) = .ok 0 from rfl, g3, h0]
        simp only [Am.appendOp]
        rw [rb hlow, rb (cellsAt_ok k1)]
        simp only
        rw [rb (rc (by simp [hsz])), rb (rc (by rw [g3]; exact hroom)), List.length_nil, Nat.add_zero, show Nat.ble I0.len I0.len = true from by simp]
        simp only [cond_true]
        rfl
    · cases hv with
      | pure hv => cases hv
      | own0 hI hc => exact .own0 (Cx.put_same _ _ _) (by rw [hI0] at hI; cases hI; exact hc)
      | own hI hc => rw [hI0] at hI; cases hI; exact .own (Cx.put_same _ _ _) hc
  · have hbm : Nat.beq M.length 0 = false := beq_ne hm
    have hpos : 0 < n := by omega
    -- the new row, somewhere new
    have newrow : ∀ (ca : List AV) (a1 : AH) (bk : BK), a1.next = a.next → (∀ i o, a1.get i = some o → a.get i = some o) → (∀ i b, (I0.cap.isSome → i ≠ I0.β) → a.get i = some b → a1.get i = some b) → (bk ≠ .ro ∧ bk ≠ .cold) → ca.length = L.length * n →
        (∀ (i : Nat) x (j : Nat) v, L[i]? = some x → (enc x)[j]? = some v → ∃ u, ca[i * n + j]? = some u ∧ SimP C.Fz v u) →
        ∃ I, Turns C (.kill d) (C.put d I) ∧ HS tab (C.put d I) ⟨h.next, (d, some (.arr X (L ++ M) enc e)) :: onH (.kill d) h.os⟩ (a1.new (.cells (ca ++ news) e n true bk)) ∧ SimV (C.put d I) (.own d) (.sl a.next 0 (L.length + M.length) (.tail 0)) ∧ Grow a (a1.new (.cells (ca ++ news) e n true bk)) ∧ Keep C h a [.kill d, .mod d] (C.put d I) ⟨h.next, (d, some (.arr X (L ++ M) enc e)) :: onH (.kill d) h.os⟩ (a1.new (.cells (ca ++ news) e n true bk)) := by
      intro ca a1 bk hn1 hold1 hkeep hbk hcl hcc
      let I : BI := ⟨a.next, L.length + M.length, n, some (.tail 0)⟩
      obtain ⟨r1, r2, r3⟩ := row_told hcl (fun i x hx => by rw [← hsz]; exact g4 i x hx) hcc hM
      obtain ⟨hT, H'⟩ := H.renew hd hI0 I (o := .arr X (L ++ M) enc e) (a' := a1.new (.cells (ca ++ news) e n true bk)) (fun i b hi hb => by
          rw [AH.get_new, if_neg (by have := H.wf _ _ hb; omega)]; exact hkeep i b hi hb)
        (fun i b hi => by
          rw [AH.get_new] at hi
          simp only [AH.next_new]
          split at hi
          · omega
          · have := H.wf _ _ (hold1 i b hi); omega)
        (fun _ => .inl (Nat.le_refl _)) (by simp only [AH.next_new]; omega)
        (fun hT => by
          refine ⟨hn, hpos, by simp [I], r2, ?_⟩
          refine ⟨ca ++ news, true, bk, by rw [AH.get_new, if_pos (by rw [hn1])], hbk, r1, .inl ⟨rfl, rfl⟩, fun i x j v hx hv => ?_⟩
          obtain ⟨w, w1, w2⟩ := r3 i x j v hx hv
          exact ⟨w, w1, w2.mono hT.1⟩)
      refine ⟨I, hT, H', .own (I := I) (Cx.put_same _ _ _) rfl, ⟨by simp only [AH.next_new]; omega, fun i o hi => ?_⟩, ?_⟩
      · rw [AH.get_new] at hi
        split at hi
        · right; omega
        · exact .inl ⟨o, hold1 i o hi⟩
      · intro p o J hp hJ hc hnd
        have hpd : p ≠ d := fun e => hnd (by simp [modded, e])
        obtain ⟨b, hb⟩ := (H.at_ hp hJ).live hc
        have hlt := H.wf _ _ hb
        refine ⟨?_, .inl (hpk I _ p o J hp hJ hpd)⟩
        rw [AH.get_new, if_neg (by omega), hkeep J.β b (fun hc0 e => hpd (H.inj p d o _ J I0 hp hd hJ hI0 hc hc0 e)) hb, hb]
    cases hv with
    | pure hv => cases hv
    | own0 hI hc =>
      rw [hI0] at hI; cases hI
      rw [hc] at g5
      have hL0 := List.eq_nil_of_length_eq_zero g5
      subst hL0
      obtain ⟨I, q1, q2, q3, q4, q5⟩ := newrow [] a .rw rfl (fun i o h => h) (fun i b _ h => h) (by simp) (by simp) (fun i x j v hx => by simp at hx)
      simp only [List.nil_append, List.length_nil, Nat.zero_add] at q2 q3 q4
      refine ⟨I, _, _, ?_, q1, q2, q3, q4, q5⟩
      simp only [Am.appendOp, hbm, cond_false]
      have hr : (Nat.ble (M.length * by_) 16777216 && Nat.ble M.length 16777216) = true := by
        have := hroom; unfold roomOK at this; simpa using this
      rw [rb (rc hr), rb hz, rb (newRow_ok hn _ _ _)]
    | own hI hc =>
      rw [hI0] at hI; cases hI
      rw [hc] at g5
      obtain ⟨ca, ext, bk, k1, k2, k3, k4, k5⟩ := g5
      rw [hsz] at k1 k3 k5
      rcases k4 with ⟨rfl, rfl⟩ | ⟨rfl, h0⟩
      · obtain ⟨I, q1, q2, q3, q4, q5⟩ := newrow ca (a.kill I0.β) bk.grown rfl (fun i o hi => by
            rw [AH.get_kill] at hi
            split at hi
            · cases hi
            · exact hi) (fun i b hi hb => by rw [AH.get_kill, if_neg (hi (by simp [hc]))]; exact hb) (by cases bk <;> simp [BK.grown]) k3 k5
        refine ⟨I, _, _, ?_, q1, q2, q3, q4, q5⟩
        have hlow : capLow a I0.β (.tail 0) = .ok L.length := by
          simp only [capLow]
          rw [rb (cellsAt_ok k1)]
          simp only
          rw [rb (rc (by simp only [Bool.true_and, Bool.not_eq_true']; exact beq_ne hn0))]
          simp only [Nat.sub_zero]
          rw [k3]
          congr 1
          exact Nat.mul_div_cancel _ hpos
        simp only [Am.appendOp]
        rw [rb hlow, rb (cellsAt_ok k1)]
        simp only
        rw [rb (rc (by simp)), g3, rb (rc hroom), show Nat.ble (L.length + M.length) L.length = false from Bool.eq_false_iff.2 fun e => by have := Nat.le_of_ble_eq_true e; omega]
        simp only [cond_false]
        rw [rb (rc (by simp only [Nat.zero_add, Nat.ble_eq]; omega)), rb hz, rb (rc (by
          simp only [Nat.beq_refl, Bool.true_and, Bool.and_eq_true]
          exact ⟨by simpa using k2, hM.one⟩)), show ca.take (L.length * n) = ca from List.take_of_length_le (by omega)]
        rw [rb (newRow_ok hn _ _ _)]
        rfl
      · have hL0 := List.eq_nil_of_length_eq_zero h0
        subst hL0
        obtain ⟨I, q1, q2, q3, q4, q5⟩ := newrow [] a .rw rfl (fun i o h => h) (fun i b _ h => h) (by simp) (by simp) (fun i x j v hx => by simp at hx)
        simp only [List.nil_append, List.length_nil, Nat.zero_add] at q2 q3 q4
        refine ⟨I, _, _, ?_, q1, q2, q3, q4, q5⟩
        have hlen0 : I0.len = 0 := by rw [g3]; rfl
        simp only [Am.appendOp]
        rw [rb (show capLow a I0.β (.lit 0) = .ok 0 from rfl), rb (cellsAt_ok k1)]
        simp only
        rw [rb (rc (by simp)), hlen0, rb (rc (by have := hroom; unfold roomOK at this; simpa using this)), show Nat.ble (0 + M.length) 0 = false from Bool.eq_false_iff.2 fun e => by have := Nat.le_of_ble_eq_true e; omega]
        simp only [cond_false]
        rw [rb (rc (by simp)), rb hz]
        simp only [Nat.zero_mul, List.take_zero, List.nil_append, Nat.zero_add]
        rw [rb (newRow_ok hn _ _ _)]
theorem appendNil_ok (H : HS tab C h a) {X : Type} {M : List X} {enc : X → List SV} {e n by_ : Nat} {news : List AV} (hn : tab.siz.get e = some n) (hn0 : n ≠ 0)
    (hz : zeroOk tab e n = .ok ()) (hroom : roomOK by_ M.length) (hM : Told C.Fz X M enc n news) :
    ∃ I v a', Am.appendOp tab a e n by_ .nils M.length news = .ok (v, a') ∧ C.le (C.put h.next I) ∧ HS tab (C.put h.next I) (h.new (.arr X M enc e)) a' ∧ SimV (C.put h.next I) (.own h.next) v ∧ Grow a a' ∧ Keep C h a [] (C.put h.next I) (h.new (.arr X M enc e)) a' := by
  by_cases hm : M.length = 0
  · let I : BI := ⟨0, 0, n, none⟩
    obtain ⟨h1, h2⟩ := H.new0 (o := .arr X M enc e) I rfl (fun hle => ⟨hn, by simp only [I]; omega, by simp [I, hm], hM.each, hm⟩)
    exact ⟨I, .nils, a, by simp [Am.appendOp, hm], h1, h2, .own0 (I := I) (Cx.put_same _ _ _) rfl, Grow.refl a, fun p o J hp hJ hc _ => ⟨rfl, .inl (by obtain ⟨o2, g2⟩ := new_keeps H (.arr X M enc e) p o hp; exact ⟨o2, g2, h1.1 _ _ hJ⟩)⟩⟩
  · let I : BI := ⟨a.next, M.length, n, some (.tail 0)⟩
    obtain ⟨h1, h2⟩ := H.new (ao := .cells news e n true .rw) (o := .arr X M enc e) I rfl (fun hle => ⟨hn, by simp only [I]; omega, rfl, hM.each, news, true, .rw, by rw [AH.get_new, if_pos rfl], by simp, hM.len, .inl ⟨rfl, rfl⟩, fun i x j v hx hv => by
        obtain ⟨u, g1, g2⟩ := hM.cell i x j v hx hv
        exact ⟨u, g1, g2.mono hle.2⟩⟩)
    refine ⟨I, .sl a.next 0 M.length (.tail 0), a.new (.cells news e n true .rw), ?_, h1, h2, .own (I := I) (Cx.put_same _ _ _) rfl, Grow.new a _, Keep.new H _ _ h1 (new_keeps H _)⟩
    simp only [Am.appendOp, beq_ne hm, cond_false]
    rw [rb (rc hroom), rb hz, rb (newRow_ok hn _ _ _)]
end
end Go.Sy

namespace Go.Sy
open Go.Am Go.RowKit
universe u v
variable [Inhabited DrP]

section
variable {tab : Tab} {view : TypeId → Option View} {C : Cx} {s : St} {ta : T AV} {a : AH} {h : SH}

theorem frz_get (s : St) (b p : Nat) (X : Type) (L : List X) (enc : X → List SV) : ((s.ev (.frz b X L enc)).del b).h.get p = if p = b then none else (s.h.get p).map (SO.on (.frz b X L enc)) := by
  obtain ⟨ts, ⟨n, os⟩, log⟩ := s
  simp only [St.ev, St.del, SH.get_set]
  by_cases e : p = b
  · simp [e]
  · simp only [if_neg e]; exact get_onH _ _ _ _
theorem frzOwn_none : ∀ (l : List SV) (s : St) (p : Nat), s.h.get p = none → (frzOwn l s).h.get p = none := by
  intro l
  induction l with
  | nil => intro s p h; exact h
  | cons x l ih =>
    intro s p h
    cases x with
    | own b =>
      simp only [frzOwn]
      split
      · refine ih _ p ?_
        rw [frz_get]; split
        · rfl
        · rw [h]; rfl
      · exact ih s p h
    | _ => exact ih s p h
theorem frzOwn_ok : ∀ (l : List SV) (s : St) (C : Cx), FS C s.ts ta → HS tab C s.h a → ∃ C' new, (frzOwn l s).log = s.log ++ new ∧ Tr C new C' ∧ HS tab C' (frzOwn l s).h a ∧ FS C' (frzOwn l s).ts ta ∧
    Stays C s.h a C' (frzOwn l s).h ∧ onLog new .nils = .nils ∧ ∀ d o, (frzOwn l s).h.get d = some o → onLog new (.own d) = .own d ∧ ∀ off n c, onLog new (.sl d off n c) = .sl d off n c := by
  intro l
  induction l with
  | nil => intro s C hF H; exact ⟨C, [], by simp [frzOwn], Tr.refl C, H, hF, Stays.refl _ _ _, rfl, fun d o _ => ⟨rfl, fun _ _ _ => rfl⟩⟩
  | cons x l ih =>
    intro s C hF H
    have skip : frzOwn (x :: l) s = frzOwn l s → ∃ C' new, (frzOwn (x :: l) s).log = s.log ++ new ∧ Tr C new C' ∧ HS tab C' (frzOwn (x :: l) s).h a ∧ FS C' (frzOwn (x :: l) s).ts ta ∧
        Stays C s.h a C' (frzOwn (x :: l) s).h ∧ onLog new .nils = .nils ∧ ∀ d o, (frzOwn (x :: l) s).h.get d = some o → onLog new (.own d) = .own d ∧ ∀ off n c, onLog new (.sl d off n c) = .sl d off n c := by
      intro e; rw [e]; exact ih s C hF H
    cases x with
    | own b =>
      simp only [frzOwn] at skip ⊢
      split
      · rename_i X L enc t hb
        obtain ⟨C1, e1, e2, e3, e4, _, e6⟩ := St.frz_ok hF H hb
        obtain ⟨C2, new, f1, f2, f3, f4, f7, f5, f6⟩ := ih _ C1 e4 e3
        refine ⟨C2, _, by rw [f1, e1, List.append_assoc], e2.trans f2, f3, f4, e6.trans f7 f2.fz, ?_, fun d o hd => ?_⟩
        · rw [onLog_append]; simp only [onLog, SV.on]; exact f5
        · have hne : d ≠ b := by
            intro e
            subst e
            rw [frzOwn_none l _ d (by rw [frz_get, if_pos rfl])] at hd; cases hd
          obtain ⟨g1, g2⟩ := f6 d o hd
          constructor
          · rw [onLog_append]
            simp only [onLog, SV.on, beq_ne hne, cond_false]
            exact g1
          · intro off n c
            rw [onLog_append]
            simp only [onLog, SV.on, beq_ne hne, cond_false]
            exact g2 off n c
      · exact ih s C hF H
    | _ => exact skip rfl

theorem setO_note (s : St) (d : Nat) (o : SO) : (((s.ev (.kill d)).setO d o).note (.mod d)).log = s.log ++ [.kill d, .mod d] ∧ (((s.ev (.kill d)).setO d o).note (.mod d)).h = ⟨s.h.next, (d, some o) :: onH (.kill d) s.h.os⟩ ∧
    (((s.ev (.kill d)).setO d o).note (.mod d)).ts = onF (.kill d) s.ts := by
  obtain ⟨ts, ⟨n, os⟩, log⟩ := s
  exact ⟨by simp [St.ev, St.setO, St.note], rfl, rfl⟩
theorem St.new_h (s : St) (o : SO) : (s.new o).h = s.h.new o ∧ (s.new o).ts = s.ts ∧ (s.new o).log = s.log := by
  obtain ⟨ts, h, log⟩ := s; exact ⟨rfl, rfl, rfl⟩
theorem Turns.kill_tr {C C' : Cx} {d : Nat} (h : Turns C (.kill d) C') : Tr C [.kill d, .mod d] C' :=
  h.tr.trans (l := [.kill d]) (Turns.tr (e := .mod d) ⟨fun _ _ h => h, fun _ _ h => h⟩)

theorem appended (hF : FS C s.ts ta) (H : HS tab C s.h a) {d : Nat} {X : Type} {L M : List X} {enc : X → List SV} {e n by_ : Nat} {u : AV} {news : List AV} {K : SV → St → Prop} (hd : s.h.get d = some (.arr X L enc e)) (hv : SimV C (.own d) u) (hn : tab.siz.get e = some n) (hn0 : n ≠ 0)
    (hz : zeroOk tab e n = .ok ()) (hroom : roomOK by_ (L.length + M.length)) (hM : Told C.Fz X M enc n news) (hk : K (.own d) (((s.ev (.kill d)).setO d (.arr X (L ++ M) enc e)).note (.mod d))) :
    Does tab C s ta a K (Am.appendOp tab a e n by_ u M.length news) := by
  obtain ⟨I, v, a', h1, h2, h3, h4, h5, h6⟩ := appendOwn_ok H hd hv hn hn0 hz hroom hM
  obtain ⟨e1, e2, e3⟩ := setO_note s d (.arr X (L ++ M) enc e)
  exact ⟨_, _, v, a', hk, h1, ⟨C.put d I, _, e1, h2.kill_tr, h4, by rw [e2]; exact h3, by rw [e3]; exact hF.turns h2, by rw [e2]; exact h6⟩, h5⟩
theorem appendedNil (hF : FS C s.ts ta) (H : HS tab C s.h a) {X : Type} {M : List X} {enc : X → List SV} {e n by_ : Nat} {news : List AV} {K : SV → St → Prop} (hn : tab.siz.get e = some n) (hn0 : n ≠ 0)
    (hz : zeroOk tab e n = .ok ()) (hroom : roomOK by_ M.length) (hM : Told C.Fz X M enc n news) (hk : K (.own s.h.next) (s.new (.arr X M enc e))) : Does tab C s ta a K (Am.appendOp tab a e n by_ .nils M.length news) := by
  obtain ⟨I, v, a', h1, h2, h3, h4, h5, h6⟩ := appendNil_ok H hn hn0 hz hroom hM
  obtain ⟨e1, e2, e3⟩ := s.new_h (.arr X M enc e)
  exact ⟨_, _, v, a', hk, h1, ⟨_, [], by rw [e3]; simp, h2.tr, h4, by rw [e1]; exact h3, by rw [e2]; exact hF.le h2, by rw [e1]; exact h6⟩, h5⟩
theorem modded_append (l m : List Ev) : modded (l ++ m) = modded l ++ modded m := by
  induction l with
  | nil => rfl
  | cons e l ih => cases e <;> simp [modded, ih]
theorem Does.later {C1 : Cx} {s1 : St} {new : List Ev} {K : SV → St → Prop} {r : R (AV × AH)} (hl : s1.log = s.log ++ new) (ht : Tr C new C1) (hk : Stays C s.h a C1 s1.h) (h : Does tab C1 s1 ta a K r) : Does tab C s ta a K r := by
  obtain ⟨sv, s', v, a', h1, h2, ⟨C', new', g1, g2, g3, g4, g5, g6⟩, h4⟩ := h
  refine ⟨sv, s', v, a', h1, h2, ⟨C', new ++ new', by rw [g1, hl, List.append_assoc], ht.trans g2, g3, g4, g5, ?_⟩, h4⟩
  intro p o I hp hI hc hn
  rw [modded_append] at hn
  rcases hk p o I hp hI hc with ⟨o', q1, q2⟩ | ⟨b, q1, q2⟩
  · exact g6 p o' I q1 q2 hc (fun e => hn (List.mem_append_right _ e))
  · exact ⟨by rw [q1]; exact g4.fz _ _ (g2.fz _ _ q2), .inr ⟨b, g2.fz _ _ q2⟩⟩

theorem appendL_ok (hF : FS C s.ts ta) (H : HS tab C s.h a) {e n by_ : Nat} (hn : tab.siz.get e = some n) (hn0 : n ≠ 0) (hz : zeroOk tab e n = .ok ()) {x : SV} {u w : AV} (hx : x = .nils → SimV C x u) (hx' : ∀ d o, x = .own d → s.h.get d = some o → SimV C x u) {Y : Type} {M : List Y} {enc' : Y → List SV} (hy : SimP C.Fz (.lst Y M enc') w)
    {K : SV → St → Prop} (h : appL s e n by_ x Y M enc' K) : ∃ m news, source a n w = .ok (m, news) ∧ Does tab C s ta a K (Am.appendOp tab a e n by_ u m news) := by
  unfold appL at h
  split at h
  · obtain ⟨he, h1⟩ := h
    obtain ⟨hr, hk⟩ := ck_ok h1
    obtain ⟨news, g1, g2⟩ := source_lst H.fz hy hn0 he
    rw [nils_ok (hx rfl)]
    exact ⟨_, _, g1, appendedNil hF H hn hn0 hz hr g2 hk⟩
  · rename_i d
    split at h
    · rename_i X L enc e' hd
      obtain ⟨hee, h1⟩ := ck_ok h
      clear h
      have hee := Nat.eq_of_beq_eq_true hee
      subst hee
      obtain ⟨he, M', hM', h2⟩ := h1
      obtain ⟨hr, hk⟩ := ck_ok h2
      obtain ⟨news, g1, g2⟩ := source_lst H.fz hy hn0 he
      cases hM'
      exact ⟨_, _, g1, appended hF H hd (hx' d _ rfl hd) hn hn0 hz hr g2 hk⟩
    · exact h.elim
  · exact h.elim
theorem appendC_ok (hF : FS C s.ts ta) (H : HS tab C s.h a) {e n by_ m : Nat} (hn : tab.siz.get e = some n) (hn0 : n ≠ 0) (hz : zeroOk tab e n = .ok ()) {x : SV} {u : AV} (hx : x = .nils → SimV C x u) (hx' : ∀ d o, x = .own d → s.h.get d = some o → SimV C x u) {cs : List SV} {ca : List AV} (hc : SimL C cs ca)
    (hl : cs.length = m * n) (hp : cs.all isPure = true) {K : SV → St → Prop} (h : appC view s e n by_ m x cs K) : Does tab C s ta a K (Am.appendOp tab a e n by_ u m ca) := by
  unfold appC at h
  split at h
  · split at h
    · rename_i V hV
      obtain ⟨l, h1, h2, h3⟩ := exL_ok h
      obtain ⟨hr, hk⟩ := ck_ok h3
      rw [chunk_len] at h1
      have := appendedNil hF H hn hn0 hz hr (told_chunks hn0 hc hl hp h1 h2) hk
      rw [h1] at this
      rw [nils_ok (hx rfl)]
      exact this
    · exact h.elim
  · rename_i d
    split at h
    · rename_i X L enc e' hd
      obtain ⟨hee, h1⟩ := ck_ok h
      clear h
      have hee := Nat.eq_of_beq_eq_true hee
      subst hee
      obtain ⟨l, h1, h2, h3⟩ := exL_ok h1
      obtain ⟨hr, hk⟩ := ck_ok h3
      rw [chunk_len] at h1
      have := appended hF H hd (hx' d _ rfl hd) hn hn0 hz hr (told_chunks hn0 hc hl hp h1 h2) hk
      rw [h1] at this
      exact this
    · exact h.elim
  · exact h.elim

theorem appendS_ok (hF : FS C s.ts ta) (H : HS tab C s.h a) {e : TypeId} {x y : SV} {u w : AV} (hx : SimV C x u) (hy : SimV C y w) {K : SV → St → Prop} (h : appendS tab view s e x y K) :
    ∃ n by_, tab.siz.get e = some n ∧ tab.byt.get e = some by_ ∧ n ≠ 0 ∧ ∃ m news, source a n w = .ok (m, news) ∧ Does tab C s ta a K (Am.appendOp tab a e n by_ u m news) := by
  unfold appendS at h
  split at h
  · rename_i n by_ hn hby
    refine ⟨n, by_, hn, hby, ?_⟩
    obtain ⟨hck, hh⟩ := ck_ok h
    clear h
    simp only [Bool.and_eq_true, Bool.not_eq_true'] at hck
    obtain ⟨hn0, hzz⟩ := hck
    have hn0 : n ≠ 0 := fun e => by subst e; simp at hn0
    refine ⟨hn0, ?_⟩
    have hz : zeroOk tab e n = .ok () := by
      split at hzz
      · rename_i z hz
        obtain ⟨zv, zc, g1, g2, g3⟩ := zeroS_ok (C := C) hz
        unfold zeroOk
        rw [rb g1, rb g2]
        exact rc (by rw [← g3.1]; exact hzz)
      · cases hzz
    clear hzz
    split at hh
    · -- known cells
      rename_i b off m cap
      split at hh
      · rename_i cs0 t0 hb0
        obtain ⟨C1, new, f1, f2, f3, f4, f7, f5, f6⟩ := frzOwn_ok ((cs0.drop off).take (m * n)) s C hF H
        have hx1 := f2.val _ _ hx
        have hy1 := f2.val _ _ hy
        generalize frzOwn ((cs0.drop off).take (m * n)) s = s1 at *
        split at hh
        · rename_i cs t1 hb1
          obtain ⟨hck, hh⟩ := ck_ok hh
          simp only [Bool.and_eq_true] at hck
          have hle := Nat.le_of_ble_eq_true hck.1
          rw [(f6 b _ hb1).2] at hy1
          cases hy1 with
          | pure hy1 => cases hy1
          | sl hI =>
            rename_i I
            obtain ⟨hcap, ca, sz, k1, k2, _⟩ := f3.at_ hb1 hI
            have hsub := (k2.drop off).take (m * n)
            have hsrc : source a n (.sl I.β off m (.lit cap)) = .ok (m, (ca.drop off).take (m * n)) := by
              have hr : readN a I.β off (m * n) = .ok ((ca.drop off).take (m * n)) := by
                unfold readN
                rw [rb (cellsAt_ok k1)]
                simp only
                rw [rb (rc (by simp only [Nat.ble_eq]; rw [← k2.1]; exact hle))]
              simp only [source]
              rw [rb hr]
            refine ⟨m, _, hsrc, Does.later f1 f2 f7 (appendC_ok f4 f3 hn hn0 hz (fun e => ?_) (fun d o e hd => ?_) hsub (by simp; omega) hck.2 hh)⟩
            · subst e; rw [f5] at hx1; exact hx1
            · subst e; rw [(f6 d o hd).1] at hx1; exact hx1
        · exact hh.elim
      · exact hh.elim
    · exact appendL_ok hF H hn hn0 hz (fun _ => hx) (fun _ _ _ _ => hx) (pure_ok hy rfl) hh
    · -- a growing row
      rename_i b
      split at hh
      · rename_i Y M enc' t' hb
        obtain ⟨C1, e1, e2, e3, e4, e5, e6⟩ := St.frz_ok hF H hb
        have hx1 := e2.val _ _ hx
        obtain ⟨m, news, g1, g2⟩ := appendL_ok (u := u) e4 e3 hn hn0 hz (fun e => by subst e; exact hx1) (fun d o e hd => by
          subst e
          have hne : d ≠ b := by
            intro e
            subst e
            rw [frz_get, if_pos rfl] at hd; cases hd
          simp only [onLog, SV.on, beq_ne hne, cond_false] at hx1
          exact hx1) (e5 w hy) hh
        exact ⟨m, news, g1, g2.later e1 e2 e6⟩
      · exact hh.elim
    · split at hh
      · rw [nils_ok hy, nils_ok hx]
        exact ⟨0, [], rfl, by simpa [Am.appendOp] using Does.same hF H (.pure .nils) hh⟩
      · exact hh.elim
    · exact hh.elim
  · exact h.elim
end
end Go.Sy

namespace Go.Sy
open Go.Am Go.RowKit
universe u v
variable [Inhabited DrP]

section
variable {tab : Tab} {view : TypeId → Option View} {C : Cx} {s : St} {ta : T AV} {a : AH} {h : SH}

theorem minS_ok {k : IntKind} : ∀ {l : List SV} {m : List AV} {x : Int} {sv : SV}, SimL C l m → minS k x l = some sv → ∃ v, minInt k x m = .ok v ∧ SimV C sv v := by
  intro l
  induction l with
  | nil => intro m x sv hs h; cases m with
    | nil => cases h; exact ⟨_, rfl, .pure (.int _ _)⟩
    | cons => have := hs.1; simp at this
  | cons y l ih => intro m x sv hs h; cases m with
    | nil => have := hs.1; simp at this
    | cons w m =>
      cases y <;> simp only [minS] at h <;> first | (cases h; done) | skip
      obtain ⟨h1, h2⟩ := hs.head
      rw [int_ok h1]
      simp only [minInt]
      exact ih h2 h
theorem maxS_ok {k : IntKind} : ∀ {l : List SV} {m : List AV} {x : Int} {sv : SV}, SimL C l m → maxS k x l = some sv → ∃ v, maxInt k x m = .ok v ∧ SimV C sv v := by
  intro l
  induction l with
  | nil => intro m x sv hs h; cases m with
    | nil => cases h; exact ⟨_, rfl, .pure (.int _ _)⟩
    | cons => have := hs.1; simp at this
  | cons y l ih => intro m x sv hs h; cases m with
    | nil => have := hs.1; simp at this
    | cons w m =>
      cases y <;> simp only [maxS] at h <;> first | (cases h; done) | skip
      obtain ⟨h1, h2⟩ := hs.head
      rw [int_ok h1]
      simp only [maxInt]
      exact ih h2 h
theorem lenS_ok (H : HS tab C s.h a) {e : TypeId} {x : SV} {v : AV} (hx : SimV C x v) {n : Nat} (hn : lenS s x = some n) : lenOf a (.slice e) v = .ok n := by
  unfold lenS at hn
  split at hn
  · cases hn; rw [nils_ok hx]; rfl
  · cases hn
    cases hx with
    | pure hx => cases hx with
      | lst0 h0 hv =>
        rw [h0]
        rcases hv with rfl | ⟨b, off, l, n, k, rfl⟩ | ⟨a, c, rfl⟩ <;> rfl
      | lst b off cap cs e sz ext bk u hb hs hl hn hc h1 h2 => rfl
  · cases hn
    cases hx with
    | pure hx => cases hx
    | sl hI => rfl
  · rename_i b
    split at hn
    · rename_i X L enc t hb
      cases hn
      cases hx with
      | pure hx => cases hx
      | own0 hI hc =>
        obtain ⟨_, _, g3, _, g5⟩ := H.at_ hb hI
        rw [hc] at g5; rw [g5]; rfl
      | own hI hc =>
        obtain ⟨_, _, g3, _, g5⟩ := H.at_ hb hI
        simp only [lenOf]; rw [g3]
    · cases hn
  · cases hn

theorem builtinS_ok (hF : FS C s.ts ta) (H : HS tab C s.h a) {b : Builtin} {ats : Array TypeId} {l : List SV} {vs : List AV} (hl : SimL C l vs) {K : SV → St → Prop} (h : builtinS tab view s b ats l K) : Does tab C s ta a K (Am.builtin tab b ats vs a) := by
  unfold builtinS at h
  split at h
  · -- len
    rename_i x
    have hv : ∃ v, vs = [v] ∧ SimV C x v := by
      cases vs with
      | nil => have := hl.1; simp at this
      | cons v vs => cases vs with
        | nil => exact ⟨v, rfl, hl.head.1⟩
        | cons => have := hl.1; simp at this
    obtain ⟨v, rfl, hx⟩ := hv
    unfold Am.builtin
    simp only
    cases ht : ats[0]? with
    | none => rw [ht] at h; simp at h
    | some t =>
      rw [ht] at h
      simp only [Option.bind_some] at h
      rw [rb (ro rfl)]
      split at h
      · rename_i hg
        split at h
        · rw [str_ok hx, rb (show und tab t = _ from ro hg)]
          exact Does.same hF H (.pure (.int _ _)) h
        · exact h.elim
      · rename_i e hg
        obtain ⟨n, h1, h2⟩ := so_ok h
        rw [rb (show und tab t = _ from ro hg)]
        simp only
        rw [rb (lenS_ok H hx h1)]
        exact Does.same hF H (.pure (.int _ _)) h2
      · exact h.elim
  · -- append
    rename_i x y
    have hv : ∃ u w, vs = [u, w] ∧ SimV C x u ∧ SimV C y w := by
      cases vs with
      | nil => have := hl.1; simp at this
      | cons v vs => cases vs with
        | nil => have := hl.1; simp at this
        | cons w vs => cases vs with
          | nil => exact ⟨v, w, rfl, hl.head.1, hl.head.2.head.1⟩
          | cons => have := hl.1; simp at this
    obtain ⟨u, w, rfl, hx, hy⟩ := hv
    cases ht : ats[0]? with
    | none => rw [ht] at h; simp at h
    | some t =>
      cases ht1 : ats[1]? with
      | none => rw [ht, ht1] at h; simp at h
      | some t1 =>
        rw [ht, ht1] at h
        simp only [Option.bind_some] at h
        split at h
        · rename_i e e' hg hg'
          obtain ⟨n, by_, hn, hby, hn0, m, news, h1, h2⟩ := appendS_ok hF H hx hy h
          unfold Am.builtin
          simp only
          rw [ht, ht1, rb (show R.of "append" (some t) = .ok t from rfl), rb (show R.of "append" (some t1) = .ok t1 from rfl), rb (show und tab t1 = _ from ro hg')]
          simp only
          rw [rb (show und tab t = _ from ro hg)]
          simp only
          rw [rb (show siz tab e = _ from ro hn), rb (show R.of "byt" (tab.byt.get e) = .ok by_ from ro hby), rb (rc (by simp only [Bool.not_eq_true']; exact beq_ne hn0)), rb h1]
          exact h2
        · exact h.elim
  · -- min
    rename_i k x l
    cases vs with
    | nil => have := hl.1; simp at this
    | cons v vs =>
      obtain ⟨h1, h2⟩ := hl.head
      rw [int_ok h1]
      obtain ⟨sv, h3, h4⟩ := so_ok h
      obtain ⟨v, h5, h6⟩ := minS_ok h2 h3
      unfold Am.builtin
      simp only
      rw [rb h5]
      exact Does.same hF H h6 h4
  · -- max
    rename_i k x l
    cases vs with
    | nil => have := hl.1; simp at this
    | cons v vs =>
      obtain ⟨h1, h2⟩ := hl.head
      rw [int_ok h1]
      obtain ⟨sv, h3, h4⟩ := so_ok h
      obtain ⟨v, h5, h6⟩ := maxS_ok h2 h3
      unfold Am.builtin
      simp only
      rw [rb h5]
      exact Does.same hF H h6 h4
  · exact h.elim

theorem newCells (hF : FS C s.ts ta) (H : HS tab C s.h a) {cs : List SV} {ca : List AV} (hc : SimL C cs ca) (e n : Nat) (hn : tab.siz.get e = some n) {K : SV → St → Prop} {sv : SV} {v : AV} (hv : ∀ C' : Cx, ∀ I, C'.ρ s.h.next = some I → I.β = a.next → SimV C' sv v) (hk : K sv (s.new (.cells cs e))) :
    Does tab C s ta a K (.ok (v, a.new (.cells ca e n false .rw))) := by
  let I : BI := ⟨a.next, 0, n, some (.lit 0)⟩
  obtain ⟨h1, h2⟩ := H.new (ao := .cells ca e n false .rw) (o := .cells cs e) I rfl (fun hle => ⟨rfl, ca, n, by rw [AH.get_new, if_pos rfl], hc.le hle, hn⟩)
  obtain ⟨e1, e2, e3⟩ := s.new_h (.cells cs e)
  exact ⟨sv, _, v, _, hk, rfl, ⟨C.put s.h.next I, [], by rw [e3]; simp, h1.tr, hv _ I (Cx.put_same _ _ _) rfl, by rw [e1]; exact h2, by rw [e2]; exact hF.le h1, by rw [e1]; exact Keep.new H _ _ h1 (new_keeps H _)⟩, Grow.new a _⟩
theorem repS_ok {l : List SV} {m : List AV} (h : SimL C l m) : ∀ n, SimL C (repS n l) (rep n m) := by
  intro n
  induction n with
  | zero => exact SimL.nil
  | succ n ih => exact h.append ih
theorem buildSliceS_ok (hF : FS C s.ts ta) (H : HS tab C s.h a) {t : TypeId} {len : Nat} {ps : List (Nat × SV)} {vs : List (Nat × AV)} (hv : vs.map (·.1) = ps.map (·.1)) (hs : SimL C (ps.map (·.2)) (vs.map (·.2))) {K : SV → St → Prop} (h : buildSliceS tab view s t len ps K) :
    Does tab C s ta a K (Am.buildSlice tab a t len vs) := by
  unfold buildSliceS at h
  split at h
  · rename_i e hg
    split at h
    · rename_i n z hn hz
      obtain ⟨hck, h1⟩ := ck_ok h
      clear h
      simp only [Bool.and_eq_true] at hck
      obtain ⟨zv, zc, g1, g2, g3⟩ := zeroS_ok (C := C) hz
      have hzl : (Nat.beq zc.length n) = true := by rw [← g3.1]; exact hck.2
      unfold Am.buildSlice
      rw [rb (show und tab t = _ from ro hg)]
      simp only
      rw [rb (show siz tab e = _ from ro hn), rb (rc hck.1), rb g1, rb g2, rb (rc hzl)]
      by_cases hl0 : len = 0
      · subst hl0
        simp only [Nat.beq_refl, cond_true] at h1
        obtain ⟨hck2, h2⟩ := ck_ok h1
        clear h1
        simp only [Bool.and_eq_true, List.isEmpty_iff, Bool.not_eq_true'] at hck2
        obtain ⟨rfl, hn0⟩ := hck2
        have hn0 : n ≠ 0 := fun e => by subst e; simp at hn0
        cases vs with
        | cons => simp at hv
        | nil =>
          split at h2
          · rename_i V hV
            simp only [List.map_nil, rep, fill]
            rw [rb (show (R.ok ([] : List AV)) = .ok [] from rfl), rb (newRow_ok hn _ _ _)]
            let I : BI := ⟨a.next, 0, n, some (.lit 0)⟩
            obtain ⟨q1, q2⟩ := H.new (ao := .cells [] e n false .rw) (o := .arr V.X [] V.enc e) I rfl (fun hle => ⟨hn, by simp only [I]; omega, rfl, fun i x hx => by simp at hx, [], false, .rw, by rw [AH.get_new, if_pos rfl], by simp, by simp, .inr ⟨rfl, rfl⟩, fun i x j v hx => by simp at hx⟩)
            obtain ⟨e1, e2, e3⟩ := s.new_h (.arr V.X [] V.enc e)
            exact ⟨_, _, _, _, h2, rfl, ⟨C.put s.h.next I, [], by rw [e3]; simp, q1.tr, .own (I := I) (Cx.put_same _ _ _) rfl, by rw [e1]; exact q2, by rw [e2]; exact hF.le q1, by rw [e1]; exact Keep.new H _ _ q1 (new_keeps H _)⟩, Grow.new a _⟩
          · exact h2.elim
      · rw [beq_ne hl0] at h1
        simp only [cond_false] at h1
        obtain ⟨cs, h2, hk⟩ := so_ok h1
        obtain ⟨ca, h3, h4⟩ := fillS_ok (qs := vs.map fun x => (x.1 * n, n, x.2)) (repS_ok g3 len) (by
          simp only [List.map_map]
          have := congrArg (List.map (fun i => (i * n, n))) hv
          simpa [List.map_map, Function.comp_def] using this) (by simpa [List.map_map, Function.comp_def] using hs) h2
        rw [rb h3, rb (newRow_ok hn _ _ _)]
        exact newCells hF H h4 e n hn (fun C' I hI hb => by rw [← hb]; exact .sl hI) hk
    · exact h.elim
  · exact h.elim

theorem evR {ts : T AV} {x : Operand} {v : AV} (h : ev ts x = .ok v) {β : Type} (f : AV → R β) : (ev ts x >>= f) = f v := rb h f
theorem modTr (b : Nat) (C : Cx) : Tr C [.mod b] C := Turns.tr (e := .mod b) ⟨fun _ _ h => h, fun _ _ h => h⟩
theorem fieldS_ok {t : TypeId} {f : Nat} {fd : Field} (h : fieldS tab t f = some fd) : fieldOf tab t f = .ok fd := by
  unfold fieldS at h
  unfold fieldOf
  split at h
  · rename_i fs hg
    rw [rb (show und tab t = _ from ro hg)]
    exact ro h
  · cases h
theorem sop_ok (hF : FS C s.ts ta) (H : HS tab C s.h a) {o : Oper} {K : SV → St → Prop} (h : sop tab view s o K) : Does tab C s ta a K (pureOp tab ta a o) := by
  obtain ⟨dst, op, type, pos, after, guard⟩ := o
  unfold sop at h
  unfold pureOp
  have same1 : ∀ {x : Operand} {K' : SV → Prop}, so (sev s.ts x) K' → ∃ sv v, ev ta x = .ok v ∧ SimV C sv v ∧ K' sv := by
    intro x K' h
    obtain ⟨sv, h1, h2⟩ := so_ok h
    obtain ⟨v, h3, h4⟩ := sev_ok hF h1
    exact ⟨sv, v, h3, h4, h2⟩
  cases op <;> simp only at h ⊢
  case move x =>
    obtain ⟨sv, v, h3, h4, h2⟩ := same1 h
    rw [evR h3]; exact Does.same hF H h4 h2
  case assign x =>
    obtain ⟨sv, v, h3, h4, h2⟩ := same1 h
    rw [evR h3]; exact Does.same hF H h4 h2
  case pick c x y =>
    split at h
    · rename_i p hc
      obtain ⟨v, h3, h4⟩ := sev_ok hF hc
      rw [bool_ok h4] at h3
      rw [evR h3]
      split at h
      · rename_i p1 p2 hx hy
        obtain ⟨u, g1, g2⟩ := sev_ok hF hx
        obtain ⟨w, g3, g4⟩ := sev_ok hF hy
        rw [bool_ok g2] at g1
        rw [bool_ok g4] at g3
        cases p
        · simp only; rw [evR g3]; exact Does.same hF H (.pure (.bool _)) h
        · simp only; rw [evR g1]; exact Does.same hF H (.pure (.bool _)) h
      · rcases br_ok h with ⟨rfl, h⟩ | ⟨rfl, h⟩
        · obtain ⟨sv, v, h3, h4, h2⟩ := same1 h
          simp only; rw [evR h3]; exact Does.same hF H h4 h2
        · obtain ⟨sv, v, h3, h4, h2⟩ := same1 h
          simp only; rw [evR h3]; exact Does.same hF H h4 h2
    · exact h.elim
  case alloc e =>
    obtain ⟨n, hn, h⟩ := so_ok h
    obtain ⟨cs, h1, h2⟩ := so_ok h
    obtain ⟨zv, zc, g1, g2, g3⟩ := zeroS_ok (C := C) h1
    rw [rb g1, rb g2, rb (newRow_ok hn _ _ _)]
    exact newCells hF H g3 e n hn (fun C' I hI hb => by rw [← hb]; exact .ptr hI) h2
  case box e x =>
    obtain ⟨n, hn, h⟩ := so_ok h
    obtain ⟨sv, v, h3, h4, h2⟩ := same1 h
    obtain ⟨hk, h2⟩ := ck_ok h2
    obtain ⟨l, g1, g2⟩ := cells_ok' h4 hk
    rw [evR h3, rb g1, rb (newRow_ok hn _ _ _)]
    exact newCells hF H g2 e n hn (fun C' I hI hb => by rw [← hb]; exact .ptr hI) h2
  case build t ps =>
    obtain ⟨l, h1, h2⟩ := so_ok h
    obtain ⟨sv, h3, h4⟩ := so_ok h2
    obtain ⟨vs, g1, g2, g3⟩ := partsS_ok hF h1
    obtain ⟨v, g4, g5⟩ := buildS_ok g2 g3 h3
    rw [rb g1, rb g4]; exact Does.same hF H g5 h4
  case buildSlice t n ps =>
    obtain ⟨l, h1, h2⟩ := so_ok h
    obtain ⟨vs, g1, g2, g3⟩ := partsS_ok hF h1
    rw [rb g1]; exact buildSliceS_ok hF H g2 g3 h2
  case load t x =>
    obtain ⟨sv, v, h3, h4, h2⟩ := same1 h
    obtain ⟨b, off, u, su, rfl, g1, g2, g3⟩ := loadS_ok H h4 h2
    rw [evR h3]; simp only; rw [rb g1]; exact Does.same hF H g2 g3
  case store t x y =>
    obtain ⟨sv, v, h3, h4, h2⟩ := same1 h
    obtain ⟨sw, w, g3, g4, g2⟩ := same1 h2
    obtain ⟨b, off, a', h', rfl, k1, k2, k3, k4, k5⟩ := storeS_ok H h4 g4 g2
    rw [evR h3]; simp only; rw [evR g3, rb k1]
    obtain ⟨ts, hh, log⟩ := s
    refine ⟨_, _, _, _, k3, rfl, ⟨C, modOf sv, rfl, ?_, .pure (.tup rfl (fun i c v hc => by simp at hc)), k2, hF, k5⟩, k4⟩
    cases sv <;> first | exact modTr _ C | exact Tr.refl C
  case nilCheck x =>
    obtain ⟨sv, v, h3, h4, h2⟩ := same1 h
    rw [evR h3]
    split at h2
    · cases h4 with
      | pure h => cases h
      | ptr hI => exact Does.same hF H (.ptr hI) h2
    · cases h4 with
      | pure h => cases h
      | eptr hI hc => exact Does.same hF H (.eptr hI hc) h2
    · cases h4 with
      | pure h => cases h with
        | rptr b base ca e sz ext bk u hb hl h1 h2' => exact Does.same hF H (.pure (.rptr b base ca e sz ext bk u hb hl h1 h2')) h2
    · cases h4 with
      | pure h => cases h with
        | fn h1 h2' h3' h4' => exact Does.same hF H (.pure (.fn h1 h2' h3' h4')) h2
      | fn h1 h2' h3' h4' => exact Does.same hF H (.fn h1 h2' h3' h4') h2
    · exact h2.elim
  case binOp op t x y _ =>
    obtain ⟨sv, v, h3, h4, h2⟩ := same1 h
    obtain ⟨sw, w, g3, g4, g2⟩ := same1 h2
    rw [evR h3, evR g3]; exact Does.val hF H (sbin_ok g2 h4 g4)
  case unOp op _ x =>
    obtain ⟨sv, v, h3, h4, h2⟩ := same1 h
    rw [evR h3]; exact Does.val hF H (sun_ok h2 h4)
  case convert x y z =>
    obtain ⟨sv, v, h3, h4, h2⟩ := same1 h
    rw [evR h3]; exact convS_ok hF H h4 h2
  case makeFunc fn first captured =>
    split at h
    · obtain ⟨xs, h1, h2⟩ := so_ok h
      obtain ⟨ys, h3, h4⟩ := so_ok h2
      obtain ⟨us, g1, g2⟩ := sevs_ok hF h1
      obtain ⟨vs, g3, g4⟩ := sevs_ok hF h3
      simp only
      rw [rb g1, rb g3]; exact Does.same hF H (.fn g2.1 g4.1 g2.2 g4.2) h4
    · exact h.elim
  case slice t x lo hi mx =>
    cases mx with
    | some m => exact h.elim
    | none =>
      obtain ⟨sv, v, h3, h4, h2⟩ := same1 h
      rw [evR h3]; exact sliceS_ok hF H h4 h2
  case fieldAddr st x f =>
    obtain ⟨fd, h1, h2⟩ := so_ok h
    obtain ⟨hck, h3⟩ := ck_ok h2
    obtain ⟨sv, v, h4, h5, h6⟩ := same1 h3
    rw [rb (fieldS_ok h1)]
    split at hck
    · rename_i n hn
      rw [rb (show siz tab fd.type = _ from ro hn), rb (rc hck), evR h4]
      split at h6
      · cases h5 with
        | pure h => cases h
        | ptr hI => exact Does.same hF H (.ptr hI) h6
      · cases h5 with
        | pure h => cases h
        | eptr hI hc => simp only [Nat.add_assoc]; exact Does.same hF H (.eptr hI hc) h6
      · cases h5 with
        | pure h => cases h with
          | rptr b base ca e sz ext bk u hb hl h1 h2' => simp only [Nat.add_assoc]; exact Does.same hF H (.pure (.rptr b base ca e sz ext bk u hb hl h1 h2')) h6
      · exact h6.elim
    · cases hck
  case field t x f =>
    obtain ⟨fd, h1, h2⟩ := so_ok h
    obtain ⟨sv, v, h4, h5, h6⟩ := same1 h2
    rw [rb (fieldS_ok h1), evR h4]
    split at h6
    · obtain ⟨us, rfl, g1⟩ := agg_ok h5
      obtain ⟨su, g2, g3⟩ := so_ok h6
      obtain ⟨u, g4, g5⟩ := partS_ok g1 g2
      simp only
      rw [rb g4]; exact Does.same hF H g5 g3
    · exact h6.elim
  case indexAddr t x ix =>
    obtain ⟨sj, vj, h1, h2, h3⟩ := same1 h
    obtain ⟨i, h4, h5⟩ := natS_ok h3 h2
    obtain ⟨sv, v, h6, h7, h8⟩ := same1 h5
    rw [evR h1, rb h4]
    split at h8
    · rename_i len e b off hg
      split at h8
      · rename_i n hn
        obtain ⟨g1, g2⟩ := ck_ok h8
        rw [rb (show und tab t = _ from ro hg), evR h6]
        cases h7 with
        | pure h => cases h
        | ptr hI => simp only; rw [rb (rc g1), rb (show siz tab e = _ from ro hn)]; exact Does.same hF H (.ptr hI) g2
      · exact h8.elim
    · rename_i e b off len cap hg
      split at h8
      · rename_i n hn
        obtain ⟨g1, g2⟩ := ck_ok h8
        rw [rb (show und tab t = _ from ro hg), evR h6]
        cases h7 with
        | pure h => cases h
        | sl hI => simp only; rw [rb (rc g1), rb (show siz tab e = _ from ro hn)]; exact Does.same hF H (.ptr hI) g2
      · exact h8.elim
    · rename_i e X L enc hg
      split at h8
      · rename_i n hn
        obtain ⟨x, g1, g2⟩ := so_ok h8
        obtain ⟨g2, g3⟩ := ck_ok g2
        have g2 := Nat.eq_of_beq_eq_true g2
        have hi := (List.getElem?_eq_some_iff.1 g1).1
        obtain ⟨b, off, cap, cs, e', sz, ext, bk, rfl, hb, hs, hl, hsz, hc, hcell⟩ := lst_ok (pure_ok h7 rfl) (by rintro rfl; simp at hi)
        obtain ⟨sz0, ext0, hb, hx0⟩ := hb
        have hszn : sz = n := by rw [← hsz i x g1]; exact g2
        subst hszn
        rw [rb (show und tab t = _ from ro hg), evR h6]
        simp only
        rw [rb (rc (by simpa using hi)), rb (show siz tab e = _ from ro hn)]
        refine Does.same hF H (.pure ?_) g3
        refine .rptr b (off + i * sz) cs e' sz0 ext0 bk (fun j => (cs[off + i * sz + j]?).getD (.tup [])) hb ?_ ?_ ?_
        · rw [g2]
          have : i * sz + sz ≤ L.length * sz := by
            calc i * sz + sz = (i + 1) * sz := by rw [Nat.add_mul, Nat.one_mul]
              _ ≤ L.length * sz := Nat.mul_le_mul_right _ hi
          omega
        · intro j v hv
          obtain ⟨u, q1, _⟩ := hcell i x j v g1 hv
          rw [q1]; rfl
        · intro j v hv
          obtain ⟨u, q1, q2⟩ := hcell i x j v g1 hv
          rw [q1]; exact q2
      · exact h8.elim
    · rename_i e b hg
      split at h8
      · rename_i n X L enc e' hn hb
        obtain ⟨g1, g2⟩ := ck_ok h8
        simp only [Bool.and_eq_true] at g1
        have hee := Nat.eq_of_beq_eq_true g1.1
        subst hee
        have hi : i < L.length := by simpa using g1.2
        rw [rb (show und tab t = _ from ro hg), evR h6]
        cases h7 with
        | pure h => cases h
        | own0 hI hc =>
          obtain ⟨_, _, _, _, k5⟩ := H.at_ hb hI
          rw [hc] at k5; omega
        | own hI hc =>
          rename_i I c
          obtain ⟨k1, k2, k3, _, k5⟩ := H.at_ hb hI
          have hsz : I.sz = n := by rw [hn] at k1; exact (Option.some.inj k1).symm
          simp only
          rw [rb (rc (by rw [k3]; simpa using hi)), rb (show siz tab e = _ from ro hn)]
          have hh : SimV C (.eptr b i 0) (.ptr I.β (i * I.sz + 0)) := .eptr hI (by simp [hc])
          rw [hsz, Nat.add_zero] at hh
          rw [Nat.zero_add]
          exact Does.same hF H hh g2
      · exact h8.elim
    · exact h8.elim
  case index t x ix =>
    obtain ⟨sj, vj, h1, h2, h3⟩ := same1 h
    obtain ⟨i, h4, h5⟩ := natS_ok h3 h2
    obtain ⟨sv, v, h6, h7, h8⟩ := same1 h5
    rw [evR h1, rb h4]
    split at h8
    · rename_i len e cs hg
      split at h8
      · rename_i n hn
        obtain ⟨g1, g2⟩ := ck_ok h8
        obtain ⟨su, g3, g4⟩ := so_ok g2
        obtain ⟨us, rfl, g5⟩ := agg_ok h7
        obtain ⟨u, g6, g7⟩ := partS_ok g5 g3
        rw [rb (show und tab t = _ from ro hg), evR h6]
        simp only
        rw [rb (rc g1), rb (show siz tab e = _ from ro hn), rb g6]; exact Does.same hF H g7 g4
      · exact h8.elim
    · rename_i c hg
      obtain ⟨b, g1, g2⟩ := so_ok h8
      rw [rb (show und tab t = _ from ro hg), evR h6, str_ok h7]
      simp only
      rw [rb (ro g1)]; exact Does.same hF H (.pure (.int _ _)) g2
    · exact h8.elim
  case extract t i =>
    obtain ⟨sv, v, h6, h7, h8⟩ := same1 h
    rw [evR h6]
    split at h8
    · obtain ⟨us, rfl, g5⟩ := tup_ok h7
      obtain ⟨su, g3, g4⟩ := so_ok h8
      obtain ⟨u, g6, g7⟩ := g5.get g3
      simp only
      rw [rb (ro g6)]; exact Does.same hF H g7 g4
    · exact h8.elim
  case call c =>
    split at h
    · rename_i b hb
      obtain ⟨l, h1, h2⟩ := so_ok h
      obtain ⟨vs, g1, g2⟩ := sevs_ok hF h1
      rw [hb]; simp only; rw [rb g1]; exact builtinS_ok hF H g2 h2
    · exact h.elim
  all_goals exact h.elim
end
end Go.Sy

namespace Go.Sy
open Go.Am Go.RowKit
universe u v
variable [Inhabited DrP]

def setAll (f : Nat → Option AO) : Nat → T AO
  | 0 => .e
  | n + 1 => (setAll f n).set n (f n)
theorem setAll_get (f : Nat → Option AO) : ∀ n i, (setAll f n).get i = if i < n then f i else none := by
  intro n
  induction n with
  | zero => intro i; simp [setAll, T.get_e]
  | succ n ih =>
    intro i
    simp only [setAll, T.get_set, ih]
    by_cases h : i = n
    · subst h; simp
    · rw [if_neg h]
      by_cases h2 : i < n
      · rw [if_pos h2, if_pos (by omega)]
      · rw [if_neg h2, if_neg (by omega)]
def ofFn (next : Nat) (f : Nat → Option AO) : AH := { t := setAll f next, next }
theorem ofFn_get (next : Nat) (f : Nat → Option AO) (i : Nat) : (ofFn next f).get i = if i < next then f i else none := setAll_get f next i

section
variable {P : Program} {tab : Tab}
theorem AGo.frame {fr : AFrame} {h h0 : AH} {Θ : AV → AH → Prop} (hgo : AGo P { fr, cs := [], h := h0 } Θ) (hs : ∀ i o, h0.get i = some o → h.get i = some o) (hn : h0.next = h.next) :
    AGo P { fr, cs := [], h } fun v h2 => ∃ h1, Θ v h1 ∧ h2.next = h1.next ∧ h.next ≤ h1.next ∧ (∀ i o, h1.get i = some o → i < h1.next) ∧ ∀ i o, h2.get i = some o ↔ (h1.get i = some o ∨ (h.get i = some o ∧ h0.get i = none ∧ h1.get i = none)) := by
  classical
  intro D E K base frC csC w hR
  have hdom : ∀ i o, h.get i = some o → i < h.next := (hR.all E (Agree.refl _ _)).1.dom
  have hd0 : ∀ i o, h0.get i = some o → i < h0.next := fun i o hi => by rw [hn]; exact hdom i o (hs i o hi)
  have hRc : Rel D E (Am.Rest E h h0 K) { fr, cs := [], h := h0 } base frC csC w := by
    refine ⟨fun E' he => ?_, fun i hi => by simp only; rw [hn]; exact hR.dom i hi, hR.wf⟩
    obtain ⟨g1, g2, g3⟩ := hR.all E' he
    refine ⟨?_, g2, g3⟩
    rw [← hR.restEq he]; exact g1.part hs hd0
  obtain ⟨v, h1, hΘ, fr1, w', vC, E', D', s1, s2, s3, s4, s5, s6, s7, s8, s9, s10⟩ := hgo D E _ base frC csC w hRc
  simp only at s9
  have hdom1 := (s4 E' (Agree.refl _ _)).1.dom
  let h2 : AH := ofFn h1.next fun i => match h1.get i with
    | some o => some o
    | none => if (h0.get i).isNone then h.get i else none
  have hg2 : ∀ i o, h2.get i = some o ↔ (h1.get i = some o ∨ (h.get i = some o ∧ h0.get i = none ∧ h1.get i = none)) := by
    intro i o
    simp only [h2, ofFn_get]
    constructor
    · intro hh
      split at hh
      · split at hh
        · rename_i o' ho'; cases hh; exact .inl ho'
        · rename_i ho'
          split at hh
          · rename_i hz
            exact .inr ⟨hh, by simpa using hz, ho'⟩
          · cases hh
      · cases hh
    · rintro (hh | ⟨h3, h4, h5⟩)
      · rw [if_pos (hdom1 i o hh), hh]
      · have := hdom i o h3
        rw [if_pos (by omega), h5]
        simp [h4, h3]
  refine ⟨v, h2, ⟨h1, hΘ, rfl, by omega, hdom1, hg2⟩, fr1, w', vC, E', D', s1, s2, s3, ?_, s5, s6, s7, s8.part, by simp only; rw [← hn]; exact s9, fun i hi => by simp only; rw [← hn]; exact s10 i hi⟩
  intro E'' he'
  obtain ⟨g1, g2⟩ := s4 E'' he'
  have hag := s5.trans he' s6
  obtain ⟨k1, k2, k3⟩ := hR.all E'' hag
  refine ⟨k1.join (by rw [hR.restEq hag]; exact g1) (by rw [hR.restEq hag]; exact s8) (fun i o hi => ((hg2 i o).1 hi).imp id (fun x => ⟨x.1, x.2.1⟩)) (fun i o hi => ?_), g2⟩
  rcases (hg2 i o).1 hi with g | ⟨g, _, _⟩
  · exact g1.dom i o g
  · have := hdom i o g
    show i < h1.next
    omega

def Post (tab : Tab) (C0 : Cx) (h0 : SH) (a0 : AH) (Q : SV → St → Prop) (v : AV) (a' : AH) : Prop :=
  ∃ sv s' C', Q sv s' ∧ SimV C' sv v ∧ HS tab C' s'.h a' ∧ Tr C0 s'.log C' ∧ Grow a0 a' ∧ Keep C0 h0 a0 s'.log C' s'.h a'
def ConOK (P : Program) (tab : Tab) (g : FuncId) (C : Con) : Prop :=
  ∀ fn body, tab.fns.get g = some fn → fn.body = some body → ∀ y, C.pre y → ∀ (Fz : Nat → Option AO) (a : AH) (avs : List AV), (∀ i o, Fz i = some o → a.get i = some o) → (∀ i o, a.get i = some o → i < a.next) →
    (C.args y).length = avs.length → (∀ (i : Nat) s v, (C.args y)[i]? = some s → avs[i]? = some v → SimP Fz s v) →
    AGo P { fr := AFrame.enter fn g body avs .normal, cs := [], h := a } fun v a' => ∃ Fz' : Nat → Option AO, (∀ i o, Fz i = some o → Fz' i = some o) ∧ (∀ i o, Fz' i = some o → a'.get i = some o) ∧ SimP Fz' (C.res y) v ∧ Grow a a' ∧
      (∀ i o, a.get i = some o → a'.get i = some o) ∧ (∀ i o, a'.get i = some o → i < a'.next) ∧ ∀ i o, Fz' i = some o → Fz i = some o ∨ a.next ≤ i
theorem ConOK.of {g : FuncId} {C : Con} (h : ∀ fn body, tab.fns.get g = some fn → fn.body = some body → ∀ y, C.pre y → ∀ (C0 : Cx) (a : AH) (avs : List AV), C0.ρ = (fun _ => none) → HS tab C0 ⟨0, []⟩ a →
      (C.args y).length = avs.length → (∀ (i : Nat) s v, (C.args y)[i]? = some s → avs[i]? = some v → SimP C0.Fz s v) → AGo P { fr := AFrame.enter fn g body avs .normal, cs := [], h := a } (Post tab C0 ⟨0, []⟩ a fun v s =>
        (∀ (C' : Cx) (a' : AH) (av : AV), HS tab C' s.h a' → SimV C' v av → ∃ Fz' : Nat → Option AO, (∀ i o, C'.Fz i = some o → Fz' i = some o) ∧ (∀ i o, Fz' i = some o → a'.get i = some o) ∧ SimP Fz' (C.res y) av))) : ConOK P tab g C := by
  intro fn body hfn hb y hy Fz a avs hfz hwf hlen hav
  let h0 : AH := ofFn a.next Fz
  have hg0 : ∀ i, h0.get i = Fz i := by
    intro i
    simp only [h0, ofFn_get]
    split
    · rfl
    · rename_i hi
      cases hz : Fz i with
      | none => rfl
      | some o => exact absurd (hwf i o (hfz i o hz)) hi
  let C0 : Cx := ⟨fun _ => none, Fz⟩
  have H0 : HS tab C0 ⟨0, []⟩ h0 := by
    refine ⟨fun p o hp => by simp [SH.get, look] at hp, fun p q o o' I J hp => by simp [SH.get, look] at hp, fun i o hi => by rw [hg0]; exact hi, fun p o I hp => by simp [SH.get, look] at hp, fun p I hp => by simp [C0] at hp, fun i o hi => ?_⟩
    rw [hg0] at hi
    exact hwf i o (hfz i o hi)
  have := h fn body hfn hb y hy C0 h0 avs rfl H0 hlen hav
  refine (this.frame (h := a) (fun i o hi => by rw [hg0] at hi; exact hfz i o hi) rfl).mono ?_
  rintro v a2 ⟨a1, ⟨sv, s', C', hQ, hsv, hH, hT, hG, _⟩, hn, hle, hw1, hg2⟩
  obtain ⟨Fz', f1, f2, f3⟩ := hQ C' a1 v hH hsv
  refine ⟨Fz', fun i o hi => f1 i o (hT.fz i o hi), fun i o hi => (hg2 i o).2 (.inl (f2 i o hi)), f3, ⟨by rw [hn]; exact hle, fun i o hi => ?_⟩, fun i o hi => ?_, fun i o hi => ?_, fun i o hi => ?_⟩
  · rcases (hg2 i o).1 hi with g | ⟨g, _, _⟩
    · rcases hG.old i o g with ⟨o0, g1⟩ | g1
      · rw [hg0] at g1; exact .inl ⟨o0, hfz i o0 g1⟩
      · exact .inr g1
    · exact .inl ⟨o, g⟩
  · cases hz : Fz i with
    | some o' =>
      have := hfz i o' hz
      rw [hi] at this; cases this
      exact (hg2 i o).2 (.inl (f2 i o (f1 i o (hT.fz i o hz))))
    | none =>
      refine (hg2 i o).2 (.inr ⟨hi, by rw [hg0]; exact hz, ?_⟩)
      cases hz1 : a1.get i with
      | none => rfl
      | some o1 =>
        rcases hG.old i o1 hz1 with ⟨o0, g1⟩ | g1
        · rw [hg0, hz] at g1; cases g1
        · have := hwf i o hi
          have e : h0.next = a.next := rfl
          omega
  · rcases (hg2 i o).1 hi with g | ⟨g, _, _⟩
    · rw [hn]; exact hw1 i o g
    · have := hwf i o g; omega
  · have h3 := f2 i o hi
    rcases hG.old i o h3 with ⟨o0, g1⟩ | g1
    · rw [hg0] at g1
      have := f1 i o0 (hT.fz i o0 g1)
      rw [hi] at this; cases this
      exact .inl g1
    · exact .inr g1
end
end Go.Sy

namespace Go.Sy
open Go.Am Go.RowKit
universe u v
variable [Inhabited DrP]

def PL (Fz : Nat → Option AO) (fs : List SV) (vs : List AV) : Prop := fs.length = vs.length ∧ ∀ (i : Nat) f v, fs[i]? = some f → vs[i]? = some v → SimP Fz f v
theorem PL.nil {Fz : Nat → Option AO} : PL Fz [] [] := ⟨rfl, fun i f v h => by simp at h⟩
theorem PL.cons {Fz : Nat → Option AO} {f : SV} {v : AV} {fs : List SV} {vs : List AV} (h : SimP Fz f v) (t : PL Fz fs vs) : PL Fz (f :: fs) (v :: vs) := by
  refine ⟨by simp [t.1], fun i a b ha hb => ?_⟩
  cases i with
  | zero => simp at ha hb; subst ha; subst hb; exact h
  | succ i => exact t.2 i a b (by simpa using ha) (by simpa using hb)
theorem PL.split {Fz : Nat → Option AO} {xs fs : List SV} {us vs : List AV} (h : PL Fz (xs ++ fs) (us ++ vs)) (hl : xs.length = us.length) : PL Fz xs us ∧ PL Fz fs vs := by
  refine ⟨⟨hl, fun i f v hf hv => h.2 i f v ?_ ?_⟩, ⟨?_, fun i f v hf hv => h.2 (xs.length + i) f v ?_ ?_⟩⟩
  · rw [List.getElem?_append_left (List.getElem?_eq_some_iff.1 hf).1]; exact hf
  · rw [List.getElem?_append_left (List.getElem?_eq_some_iff.1 hv).1]; exact hv
  · have := h.1; simp at this; omega
  · rw [List.getElem?_append_right (by omega)]; simpa using hf
  · rw [List.getElem?_append_right (by omega), hl]; simpa using hv
theorem lst_eq {X X' : Type} {L : List X} {L' : List X'} {enc : X → List SV} {enc' : X' → List SV} {Fz : Nat → Option AO} {v : AV} (h : SV.lst X' L' enc' = SV.lst X L enc) (hv : SimP Fz (.lst X' L' enc') v) : SimP Fz (.lst X L enc) v := h ▸ hv

section
variable {P : Program} {tab : Tab} {cfg : Cfg} {ta : T AV} {a : AH}
theorem St.kill_del {C : Cx} {s : St} (hF : FS C s.ts ta) (H : HS tab C s.h a) {d : Nat} {o0 : SO} (hd : s.h.get d = some o0) : ∃ C', ((s.ev (.kill d)).del d).log = s.log ++ [.kill d] ∧ Tr C [.kill d] C' ∧ HS tab C' ((s.ev (.kill d)).del d).h a ∧ FS C' ((s.ev (.kill d)).del d).ts ta ∧
    Stays C s.h a C' ((s.ev (.kill d)).del d).h ∧ Turns C (.kill d) C' ∧ ∀ I, C.ρ d = some I → I.cap.isSome → C'.Fz I.β = a.get I.β := by
  obtain ⟨ts, ⟨n, os⟩, log⟩ := s
  obtain ⟨I, hI, ho⟩ := H.obj d _ hd
  obtain ⟨C', hT, H', hfb, hρ⟩ := H.freeze (e := .kill d) hd hI (fun C' h1 h2 _ => kill_turns C' h1 h2)
  refine ⟨C', rfl, hT.tr, H', hF.turns hT, ?_, hT, fun J hJ hc => by rw [hI] at hJ; cases hJ; exact hfb hc⟩
  intro p o J hp hJ hc
  by_cases e : p = d
  · subst e
    rw [hI] at hJ; cases hJ
    obtain ⟨b, hb⟩ := (H.at_ hp hI).live hc
    exact .inr ⟨b, hb, by rw [hfb hc, hb]⟩
  · refine .inl ⟨o.on (.kill d), ?_, by rw [hρ]; exact hJ⟩
    simp only [St.ev, St.del, SH.get_set, if_neg e]
    rw [get_onH, hp]; rfl

theorem argM_ok (htab : cfg.tab = tab) : ∀ (n : Nat) (fs as : List SV) (vs : List AV) (s : St) (C : Cx) (K : St → Prop), argM cfg n fs as s K → SimL C as vs → FS C s.ts ta → HS tab C s.h a →
    ∃ C' new s', s'.log = s.log ++ new ∧ Tr C new C' ∧ HS tab C' s'.h a ∧ FS C' s'.ts ta ∧ Stays C s.h a C' s'.h ∧ K s' ∧ PL C'.Fz fs vs := by
  intro n
  induction n with
  | zero => intro fs as vs s C K h; exact h.elim
  | succ n ih =>
    intro fs as vs s C K h hs0 hF H
    have lift : ∀ {f : SV} {fs : List SV} {a0 : SV} {as : List SV} {v : AV} {vs : List AV}, argM cfg n fs as s K → SimL C as vs → (∀ Fz' : Nat → Option AO, (∀ i o, C.Fz i = some o → Fz' i = some o) → SimP Fz' f v) →
        ∃ C' new s', s'.log = s.log ++ new ∧ Tr C new C' ∧ HS tab C' s'.h a ∧ FS C' s'.ts ta ∧ Stays C s.h a C' s'.h ∧ K s' ∧ PL C'.Fz (f :: fs) (v :: vs) := by
      intro f fs a0 as v vs h hs hv
      obtain ⟨C', new, s', g1, g2, g3, g4, g5, g6, g7⟩ := ih fs as vs s C K h hs hF H
      exact ⟨C', new, s', g1, g2, g3, g4, g5, g6, PL.cons (hv _ g2.fz) g7⟩
    have liftP : ∀ {f : SV} {fs : List SV} {as : List SV} {v : AV} {vs : List AV}, argM cfg n fs as s K → SimL C as vs → SimP C.Fz f v →
        ∃ C' new s', s'.log = s.log ++ new ∧ Tr C new C' ∧ HS tab C' s'.h a ∧ FS C' s'.ts ta ∧ Stays C s.h a C' s'.h ∧ K s' ∧ PL C'.Fz (f :: fs) (v :: vs) := fun h hs hv => lift (a0 := .any) h hs (fun Fz' hf => hv.mono hf)
    cases fs with
    | nil =>
      cases as with
      | nil =>
        cases vs with
        | nil => exact ⟨C, [], s, by simp, Tr.refl C, H, hF, Stays.refl _ _ _, h, PL.nil⟩
        | cons => have := hs0.1; simp at this
      | cons => simp only [argM] at h
    | cons f fs =>
      cases as with
      | nil => simp only [argM] at h
      | cons x as =>
        cases vs with
        | nil => have := hs0.1; simp at this
        | cons v vs =>
          obtain ⟨hx, hs⟩ := hs0.head
          clear hs0
          simp only [argM] at h
          split at h
          · exact liftP h hs (.any _)
          · obtain ⟨rfl, h⟩ := h; rw [bool_ok hx]; exact liftP h hs (.bool _)
          · obtain ⟨h1, h2, h3⟩ := ck_ok h
            clear h
            have h1 := of_decide_eq_true h1
            subst h1
            rw [int_ok hx, h2]; exact liftP h3 hs (.int _ _)
          · obtain ⟨rfl, h⟩ := h; rw [str_ok hx]; exact liftP h hs (.str _)
          · exact liftP h hs (pure_ok hx rfl)
          · exact liftP h hs (pure_ok hx rfl)
          · exact liftP h hs (pure_ok hx rfl)
          · exact liftP h hs (pure_ok hx rfl)
          · obtain ⟨h1, h⟩ := h
            exact liftP h hs (lst_eq h1 (pure_ok hx rfl))
          · obtain ⟨rfl, h⟩ := h
            rw [nils_ok hx]
            exact liftP h hs (.lst0 rfl (.inl rfl))
          · rename_i X L enc b
            split at h
            · rename_i X' L' enc' t hb
              obtain ⟨h1, h⟩ := h
              obtain ⟨C1, e1, e2, e3, e4, e5, e6⟩ := St.frz_ok hF H hb
              have hs1 : SimL C1 (SV.onL (.frz b X' L' enc') as) vs := by
                rw [onL_eq]
                refine ⟨by simp [hs.1], fun i q w hq hw => ?_⟩
                rw [List.getElem?_map] at hq
                obtain ⟨q0, hq0, rfl⟩ := Option.map_eq_some_iff.1 hq
                exact e2.val q0 w (hs.2 i q0 w hq0 hw)
              obtain ⟨C', new, s', g1, g2, g3, g4, g5, g6, g7⟩ := ih fs _ vs _ C1 K h hs1 e4 e3
              exact ⟨C', _, s', by rw [g1, e1, List.append_assoc], e2.trans g2, g3, g4, e6.trans g5 g2.fz, g6, PL.cons ((lst_eq h1 (e5 v hx)).mono g2.fz) g7⟩
            · exact h.elim
          · rename_i X L enc b off m c
            split at h
            · rename_i cs e hb
              split at h
              · rename_i r hr
                rw [htab] at hr
                obtain ⟨hck, h⟩ := ck_ok h
                simp only [Bool.and_eq_true, Bool.not_eq_true'] at hck
                obtain ⟨⟨⟨hr0, hmc⟩, hle⟩, hpu⟩ := hck
                have hr0 : r ≠ 0 := fun e => by subst e; simp at hr0
                have hmc := Nat.le_of_ble_eq_true hmc
                have hle := Nat.le_of_ble_eq_true hle
                obtain ⟨h1, h⟩ := h
                obtain ⟨C1, e1, e2, e3, e4, e5, e6, e7⟩ := St.kill_del hF H hb
                have hs1 : SimL C1 (SV.onL (.kill b) as) vs := hs.turns e6
                obtain ⟨C', new, s', g1, g2, g3, g4, g5, g6, g7⟩ := ih fs _ vs _ C1 K h hs1 e4 e3
                refine ⟨C', _, s', by rw [g1, e1, List.append_assoc], e2.trans g2, g3, g4, e5.trans g5 g2.fz, g6, PL.cons ?_ g7⟩
                cases hx with
                | pure hx => cases hx
                | sl hI =>
                  rename_i I
                  obtain ⟨hcap, ca, sz, k1, k2, k3⟩ := H.at_ hb hI
                  have hszr : r = sz := by rw [hr] at k3; exact Option.some.inj k3
                  subst hszr
                  have hfz := e7 I hI hcap
                  rw [k1] at hfz
                  have hLm : L.length = m := by
                    have := congrArg List.length h1
                    rw [chunk_len] at this
                    simpa using this.symm
                  have hsub := (k2.drop off).take (m * r)
                  have hT : Told C.Fz X L enc r ((ca.drop off).take (m * r)) := told_chunks hr0 hsub (by simp; omega) hpu hLm (fun i x q hx hq => by
                    rw [h1, List.getElem?_map, hx] at hq
                    simpa using hq)
                  subst hLm
                  refine SimP.mono g2.fz (lst_mk I.β off _ ca e _ false .rw _ rfl (.of hfz) (by omega) (by rw [← k2.1]; exact hle) hT.each hmc ?_)
                  intro i x j w hx hw
                  obtain ⟨u, q1, q2⟩ := hT.cell i x j w hx hw
                  refine ⟨u, ?_, q2.mono e2.fz⟩
                  rw [List.getElem?_take] at q1
                  split at q1
                  · rw [List.getElem?_drop, ← Nat.add_assoc] at q1; exact q1
                  · cases q1
              · exact h.elim
            · exact h.elim
          · rename_i xs ys
            obtain ⟨h1, h⟩ := ck_ok h
            have h1 := Nat.eq_of_beq_eq_true h1
            obtain ⟨us, rfl, hu⟩ := agg_ok hx
            obtain ⟨C', new, s', g1, g2, g3, g4, g5, g6, g7⟩ := ih _ _ (us ++ vs) s C K h (hu.append hs) hF H
            obtain ⟨q1, q2⟩ := g7.split (h1.trans hu.1)
            exact ⟨C', new, s', g1, g2, g3, g4, g5, g6, PL.cons (.agg q1.1 q1.2) q2⟩
          · rename_i f xs us g ys ws
            obtain ⟨h1, h'⟩ := ck_ok h
            clear h
            have h := h'
            clear h'
            simp only [Bool.and_eq_true] at h1
            obtain ⟨⟨h0, h1⟩, h2⟩ := h1
            have h0 := Nat.eq_of_beq_eq_true h0
            have h1 := Nat.eq_of_beq_eq_true h1
            have h2 := Nat.eq_of_beq_eq_true h2
            subst h0
            have hfn : ∃ y' w', v = .fn (.func f) y' w' ∧ SimL C ys y' ∧ SimL C ws w' := by
              cases hx with
              | pure hx => cases hx with
                | fn k1 k2 k3 k4 => exact ⟨_, _, rfl, ⟨k1, fun i q r a b => .pure (k3 i q r a b)⟩, ⟨k2, fun i q r a b => .pure (k4 i q r a b)⟩⟩
              | fn k1 k2 k3 k4 => exact ⟨_, _, rfl, ⟨k1, k3⟩, ⟨k2, k4⟩⟩
            obtain ⟨y', w', rfl, k1, k2⟩ := hfn
            obtain ⟨C', new, s', g1, g2, g3, g4, g5, g6, g7⟩ := ih _ _ (y' ++ (w' ++ vs)) s C K h (k1.append (k2.append hs)) hF H
            obtain ⟨q1, q2⟩ := g7.split (h1.trans k1.1)
            obtain ⟨q2, q3⟩ := q2.split (h2.trans k2.1)
            exact ⟨C', new, s', g1, g2, g3, g4, g5, g6, PL.cons (.fn q1.1 q2.1 q1.2 q2.2) q3⟩
          · exact h.elim
end
end Go.Sy

namespace Go.Sy
open Go.Am Go.RowKit
universe u v
variable [Inhabited DrP]

theorem forceL_ok {α : Type u} : ∀ {l : List α} {K : List α → Prop}, forceL l K → K l := by
  intro l
  induction l with
  | nil => intro K h; exact h
  | cons x l ih => intro K h; exact ih (K := fun l' => K (x :: l')) h
theorem forceV_ok {v : SV} {K : SV → Prop} (h : forceV v K) : K v := by
  cases v <;> simp only [forceV] at h <;> first | exact h | exact forceL_ok h | exact forceL_ok (forceL_ok h)
theorem forceO_ok {o : SO} {K : SO → Prop} (h : forceO o K) : K o := by
  cases o with
  | cells cs t => exact forceL_ok (K := fun cs => K (.cells cs t)) h
  | arr X L enc t => exact h
theorem forceH_ok {h : SH} {K : SH → Prop} (hh : forceH h K) : K h := by
  obtain ⟨n, os⟩ := h
  simp only [forceH] at hh
  split at hh
  · exact forceO_ok (K := fun o => K ⟨n, (_, some o) :: _⟩) hh
  · exact hh
theorem forceT_ok {α : Type} : ∀ {t : T α} {K : T α → Prop}, forceT t K → K t := by
  intro t
  induction t with
  | e => intro K h; exact h
  | n v l r ihl ihr =>
    intro K h
    simp only [forceT] at h
    have h := ihr (ihl h)
    cases v <;> exact h

section
variable {P : Program} {tab : Tab} {cfg : Cfg} {rec : SM → (SV → St → Prop) → Prop} {C : Cx} {s : St} {ta : T AV} {a : AH}

def RecOK (P : Program) (tab : Tab) (rec : SM → (SV → St → Prop) → Prop) : Prop :=
  ∀ (f : FuncId) (fn : Func) (body : Code) (args : List SV) (h : SH) (a : AH) (C : Cx) (avs : List AV) (Q : SV → St → Prop), tab.fns.get f = some fn → fn.body = some body →
    rec ⟨f, Nat.max fn.ntmps args.length, h.next, [.code body], ⟨Fr.of args 0, h, []⟩⟩ Q → HS tab C h a → SimL C args avs → AGo P { fr := AFrame.enter fn f body avs .normal, cs := [], h := a } (Post tab C h a Q)

theorem callS_ok (htab : cfg.tab = tab) (hrec : RecOK P tab rec) (hcon : ∀ g C, cfg.con g = some C → ConOK P tab g C) {f : FuncId} {args : List SV} {avs : List AV} {K : SV → St → Prop} (h : callS cfg rec f args s K) (hF : FS C s.ts ta) (H : HS tab C s.h a) (hs : SimL C args avs) :
    ∃ fn body, tab.fns.get f = some fn ∧ fn.body = some body ∧ AGo P { fr := AFrame.enter fn f body avs .normal, cs := [], h := a } fun v a' => a.next ≤ a'.next ∧ ∃ sv s', K sv s' ∧ Res tab C s ta a sv s' v a' := by
  unfold callS at h
  rw [htab] at h
  split at h
  · rename_i fn hfn
    split at h
    · rename_i body hb
      refine ⟨fn, body, hfn, hb, ?_⟩
      split at h
      · rename_i Cn hCn
        obtain ⟨y, h⟩ := h
        obtain ⟨C1, new, s1, g1, g2, g3, g4, g5, ⟨hpre, hk⟩, g7⟩ := argM_ok htab 1000 _ _ _ _ _ _ h hs hF H
        refine (hcon f Cn hCn fn body hfn hb y hpre C1.Fz a avs g3.fz g3.wf g7.1 g7.2).mono ?_
        rintro v a' ⟨Fz', f1, f2, f3, f4, f5, f6, f7⟩
        refine ⟨f4.next, _, s1, hk, ⟨⟨C1.ρ, Fz'⟩, new, g1, ?_, .pure f3, ?_, ?_, ?_⟩, f4⟩
        · have hle : C1.le ⟨C1.ρ, Fz'⟩ := ⟨fun _ _ h => h, f1⟩
          have := g2.trans hle.tr
          simpa using this
        · have hle : C1.le ⟨C1.ρ, Fz'⟩ := ⟨fun _ _ h => h, f1⟩
          refine ⟨fun p o hp => ?_, g3.inj, f2, fun p o I hp hI hc => ?_, g3.lt, f6⟩
          · obtain ⟨I, hI, ho⟩ := g3.obj p o hp
            refine ⟨I, hI, ?_⟩
            have ho' := ho.le hle
            by_cases hc : I.cap.isSome
            · obtain ⟨b, hb'⟩ := ho.live hc
              exact ho'.congr ((f5 _ _ hb').trans hb'.symm)
            · cases o with
              | cells cs t => exact absurd ho.1 hc
              | arr X L enc t =>
                obtain ⟨q1, q2, q3, q4, q5⟩ := ho'
                refine ⟨q1, q2, q3, q4, ?_⟩
                cases hcap : I.cap with
                | none => rw [hcap] at q5; exact q5
                | some c => rw [hcap] at hc; simp at hc
          · show Fz' I.β = none
            cases hz : Fz' I.β with
            | none => rfl
            | some b =>
              rcases f7 _ _ hz with hz1 | hz1
              · have := g3.dj p o I hp hI hc
                rw [hz1] at this; cases this
              · obtain ⟨b', hb'⟩ := (g3.at_ hp hI).live hc
                have := g3.wf _ _ hb'
                omega
        · have hle : C1.le ⟨C1.ρ, Fz'⟩ := ⟨fun _ _ h => h, f1⟩
          exact FS.le hle g4
        · intro p o I hp hI hc _
          obtain ⟨b, hb'⟩ := (H.at_ hp hI).live hc
          refine ⟨by rw [hb']; exact f5 _ _ hb', ?_⟩
          rcases g5 p o I hp hI hc with h1 | ⟨b, _, h2⟩
          · exact .inl h1
          · exact .inr ⟨b, f1 _ _ h2⟩
      · obtain ⟨ts, hh, log⟩ := s
        simp only at h
        refine (hrec f fn body args hh a C avs _ hfn hb h H hs).mono ?_
        rintro v a' ⟨sv, s', C', hk, q1, q2, q3, q4, q5⟩
        obtain ⟨ts', h', log'⟩ := s'
        exact ⟨q4.next, sv, _, hk, ⟨C', log', rfl, q3, q1, q2, hF.log q3, q5⟩, q4⟩
    · exact h.elim
  · exact h.elim
theorem execS_ok (htab : cfg.tab = tab) (hrec : RecOK P tab rec) (hcon : ∀ g C, cfg.con g = some C → ConOK P tab g C) {o : Oper} {K : SV → St → Prop} (h : execS cfg rec s o K) (hF : FS C s.ts ta) (H : HS tab C s.h a) :
    EffR P tab ta a o fun v a' => ∃ sv s', K sv s' ∧ Res tab C s ta a sv s' v a' := by
  have hsop : sop cfg.tab cfg.view s o K → EffR P tab ta a o fun v a' => ∃ sv s', K sv s' ∧ Res tab C s ta a sv s' v a' := by
    intro h
    rw [htab] at h
    obtain ⟨sv, s', v, a', h1, h2, h3⟩ := sop_ok hF H h
    exact .inl ⟨v, a', h2, h3.grow.next, sv, s', h1, h3⟩
  unfold execS at h
  split at h
  · rename_i c hc
    split at h
    · rename_i f hf
      obtain ⟨args, h1, h2⟩ := so_ok h
      obtain ⟨sf, h3, h4⟩ := so_ok h2
      obtain ⟨avs, g1, g2⟩ := sevs_ok hF h1
      obtain ⟨vf, g3, g4⟩ := sev_ok hF h3
      split at h4
      · rename_i g first captured
        have hfn : ∃ us ws, vf = .fn (.func g) us ws ∧ SimL C first us ∧ SimL C captured ws := by
          cases g4 with
          | pure hx => cases hx with
            | fn k1 k2 k3 k4 => exact ⟨_, _, rfl, ⟨k1, fun i q r a b => .pure (k3 i q r a b)⟩, ⟨k2, fun i q r a b => .pure (k4 i q r a b)⟩⟩
          | fn k1 k2 k3 k4 => exact ⟨_, _, rfl, ⟨k1, k3⟩, ⟨k2, k4⟩⟩
        obtain ⟨us, ws, rfl, k1, k2⟩ := hfn
        obtain ⟨fn, body, q1, q2, q3⟩ := callS_ok htab hrec hcon h4 hF H ((k1.append g2).append k2)
        exact .inr ⟨c, f, g, us, ws, avs, fn, body, hc, hf, g3, g1, q1, q2, q3⟩
      · exact h4.elim
    · exact hsop h
  · exact hsop h

theorem guardS_ok {ops : Array Oper} {o : Oper} {K : Bool → St → Prop} (h : guardS ops o s K) (hF : FS C s.ts ta) : ∃ b s', K b s' ∧ wanted ops o ta = .ok b ∧ FS C s'.ts ta ∧ s'.h = s.h ∧ s'.log = s.log := by
  unfold guardS at h
  unfold wanted
  split at h
  · rename_i hg
    rw [hg]; exact ⟨true, s, h, rfl, hF, rfl, rfl⟩
  · rename_i j w hg
    rw [hg]
    simp only
    obtain ⟨ts, hh, log⟩ := s
    split at h
    · rename_i d hd
      simp only at h
      rw [hd]
      simp only [Option.bind_some]
      have lit : ∀ p : Bool, look ts d = some (.bool p) → ta.get d = some (.bool p) := by
        intro p hp
        have h1 := hF d _ hp
        have h2 := bool_ok h1
        cases hg : ta.get d with
        | none => rw [hg] at h2; simp at h2
        | some v => rw [hg] at h2; simp at h2; rw [h2]
      have putb : ∀ p : Bool, ta.get d = some (.bool p) → FS C ((d, .bool p) :: ts) ta := by
        intro p hp t q hq
        rw [look_cons] at hq
        split at hq
        · rename_i e
          cases hq
          rw [e, hp]
          exact .pure (.bool p)
        · exact hF t q hq
      split at h
      · rename_i p hp
        have hta := lit p hp
        rw [hta]
        simp only
        rcases br_ok h with ⟨rfl, h⟩ | ⟨rfl, h⟩
        · exact ⟨w, _, h, by cases w <;> rfl, putb true hta, rfl, rfl⟩
        · exact ⟨!w, _, h, by cases w <;> rfl, putb false hta, rfl, rfl⟩
      · rename_i cs hp
        have h1 := hF d _ hp
        obtain ⟨us, h2, _⟩ := tup_ok h1
        cases hg : ta.get d with
        | none => exact ⟨false, _, h, rfl, hF, rfl, rfl⟩
        | some v =>
          rw [hg] at h2
          simp at h2
          rw [h2]
          exact ⟨false, _, h, rfl, hF, rfl, rfl⟩
      · exact h.elim
    · rename_i hd
      rw [hd]
      exact ⟨false, _, h, rfl, hF, rfl, rfl⟩
def putT (nt : Nat) (ta : T AV) (d : Option Tmp) (v : AV) : T AV := match d with | some d => bif Nat.blt d nt then ta.set d (some v) else ta | none => ta
theorem putS_ok {nt : Nat} {d : Option Tmp} {sv : SV} {v : AV} {K : St → Prop} (h : putS nt s d sv K) (hF : FS C s.ts ta) (hv : SimV C sv v) :
    ∃ s', K s' ∧ FS C s'.ts (putT nt ta d v) ∧ s'.h = s.h ∧ s'.log = s.log := by
  obtain ⟨ts, hh, log⟩ := s
  unfold putS at h
  cases d with
  | none => exact ⟨_, forceH_ok (K := fun h => K ⟨ts, h, log⟩) h, hF, rfl, rfl⟩
  | some d =>
    simp only [putT] at h ⊢
    cases hb : Nat.blt d nt
    · rw [hb] at h; exact ⟨_, h, hF, rfl, rfl⟩
    · rw [hb] at h
      have h := forceH_ok (K := fun h => K ⟨(d, sv) :: ts, h, log⟩) (forceV_ok (K := fun v => forceH hh fun h => K ⟨(d, v) :: ts, h, log⟩) h)
      exact ⟨_, h, hF.put hv, rfl, rfl⟩
end
end Go.Sy

namespace Go.Sy
open Go.Am Go.RowKit
universe u v
variable [Inhabited DrP]

mutual
theorem SV.on_lt (e : Ev) : ∀ (s : SV) (n : Nat), s.lt n = true → n ≤ e.id → s.on e = s
  | .bool b, n, _, _ => by simp [SV.on]
  | .int k m, n, _, _ => by simp [SV.on]
  | .str s, n, _, _ => by simp [SV.on]
  | .nilp, n, _, _ => by simp [SV.on]
  | .ptr b off, n, h, he => by
    simp only [SV.lt, Nat.blt_eq] at h
    cases e <;> simp only [SV.on, Ev.id] at * <;> first | rfl | (rw [beq_ne (by omega)]; rfl)
  | .eptr b i off, n, h, he => by
    simp only [SV.lt, Nat.blt_eq] at h
    cases e <;> simp only [SV.on, Ev.id] at * <;> first | rfl | (rw [beq_ne (by omega)]; rfl)
  | .rptr cs off, n, _, _ => by simp [SV.on]
  | .nils, n, _, _ => by simp [SV.on]
  | .sl b off l c, n, h, he => by
    simp only [SV.lt, Nat.blt_eq] at h
    cases e <;> simp only [SV.on, Ev.id] at * <;> first | rfl | (rw [beq_ne (by omega)]; rfl)
  | .own b, n, h, he => by
    simp only [SV.lt, Nat.blt_eq] at h
    cases e <;> simp only [SV.on, Ev.id] at * <;> first | rfl | (rw [beq_ne (by omega)]; rfl)
  | .lst X L enc, n, _, _ => by simp [SV.on]
  | .nilm, n, _, _ => by simp [SV.on]
  | .map b, n, _, _ => by simp [SV.on]
  | .nilf, n, _, _ => by simp [SV.on]
  | .fn f xs ys, n, h, he => by
    simp only [SV.lt, Bool.and_eq_true] at h
    simp only [SV.on, SV.onL_lt e xs n h.1 he, SV.onL_lt e ys n h.2 he]
  | .agg cs, n, h, he => by
    simp only [SV.lt] at h
    simp only [SV.on, SV.onL_lt e cs n h he]
  | .tup cs, n, h, he => by
    simp only [SV.lt] at h
    simp only [SV.on, SV.onL_lt e cs n h he]
  | .any, n, _, _ => by simp [SV.on]
theorem SV.onL_lt (e : Ev) : ∀ (l : List SV) (n : Nat), SV.ltL n l = true → n ≤ e.id → SV.onL e l = l
  | [], n, _, _ => by simp [SV.onL]
  | v :: l, n, h, he => by
    simp only [SV.ltL, Bool.and_eq_true] at h
    simp only [SV.onL, SV.on_lt e v n h.1 he, SV.onL_lt e l n h.2 he]
end
theorem onLog_lt : ∀ (log : List Ev) (s : SV) (n : Nat), s.lt n = true → (∀ e ∈ log, n ≤ e.id) → onLog log s = s := by
  intro log
  induction log with
  | nil => intro s n _ _; rfl
  | cons e l ih =>
    intro s n h he
    simp only [onLog]
    rw [SV.on_lt e s n h (he e List.mem_cons_self)]
    exact ih s n h (fun e' h' => he e' (List.mem_cons_of_mem _ h'))
theorem ltL_mem {n : Nat} : ∀ {l : List SV}, SV.ltL n l = true ↔ ∀ s ∈ l, s.lt n = true := by
  intro l
  induction l with
  | nil => simp [SV.ltL]
  | cons v l ih => simp [SV.ltL, ih]
theorem ltL_get {n : Nat} {l : List SV} (h : SV.ltL n l = true) {i : Nat} {s : SV} (hs : l[i]? = some s) : s.lt n = true := ltL_mem.1 h s (List.mem_of_getElem? hs)

open Classical in
noncomputable def Cx.cut (C : Cx) (n : Nat) : Cx := { C with ρ := fun p => if p < n then C.ρ p else none }
theorem Cx.cut_get (C : Cx) {n p : Nat} (h : p < n) : (C.cut n).ρ p = C.ρ p := by simp [Cx.cut, h]
theorem SimV.cut {C : Cx} {n : Nat} {s : SV} {v : AV} (h : SimV C s v) (hl : s.lt n = true) : SimV (C.cut n) s v := by
  induction h with
  | pure h => exact .pure h
  | ptr h => simp only [SV.lt, Nat.blt_eq] at hl; exact .ptr (by rw [Cx.cut_get C hl]; exact h)
  | eptr h hc => simp only [SV.lt, Nat.blt_eq] at hl; exact .eptr (by rw [Cx.cut_get C hl]; exact h) hc
  | own0 h hc => simp only [SV.lt, Nat.blt_eq] at hl; exact .own0 (by rw [Cx.cut_get C hl]; exact h) hc
  | own h hc => simp only [SV.lt, Nat.blt_eq] at hl; exact .own (by rw [Cx.cut_get C hl]; exact h) hc
  | sl h => simp only [SV.lt, Nat.blt_eq] at hl; exact .sl (by rw [Cx.cut_get C hl]; exact h)
  | fn h1 h2 _ _ ih3 ih4 =>
    simp only [SV.lt, Bool.and_eq_true] at hl
    exact .fn h1 h2 (fun i x u hx hu => ih3 i x u hx hu (ltL_get hl.1 hx)) (fun i x u hx hu => ih4 i x u hx hu (ltL_get hl.2 hx))
  | agg h1 _ ih => simp only [SV.lt] at hl; exact .agg h1 (fun i x u hx hu => ih i x u hx hu (ltL_get hl hx))
  | tup h1 _ ih => simp only [SV.lt] at hl; exact .tup h1 (fun i x u hx hu => ih i x u hx hu (ltL_get hl hx))
theorem SimP.low {Fz : Nat → Option AO} {n : Nat} {s : SV} {v : AV} (h : SimP Fz s v) : s.lt n = true := by
  induction h with
  | fn h1 h2 _ _ ih3 ih4 =>
    simp only [SV.lt, Bool.and_eq_true]
    constructor
    · rw [ltL_mem]
      intro s hs
      obtain ⟨i, hi⟩ := List.mem_iff_getElem?.1 hs
      exact ih3 i s _ hi (List.getElem?_eq_getElem (by rw [← h1]; exact (List.getElem?_eq_some_iff.1 hi).1))
    · rw [ltL_mem]
      intro s hs
      obtain ⟨i, hi⟩ := List.mem_iff_getElem?.1 hs
      exact ih4 i s _ hi (List.getElem?_eq_getElem (by rw [← h2]; exact (List.getElem?_eq_some_iff.1 hi).1))
  | agg h1 _ ih =>
    simp only [SV.lt]
    rw [ltL_mem]
    intro s hs
    obtain ⟨i, hi⟩ := List.mem_iff_getElem?.1 hs
    exact ih i s _ hi (List.getElem?_eq_getElem (by rw [← h1]; exact (List.getElem?_eq_some_iff.1 hi).1))
  | tup h1 _ ih =>
    simp only [SV.lt]
    rw [ltL_mem]
    intro s hs
    obtain ⟨i, hi⟩ := List.mem_iff_getElem?.1 hs
    exact ih i s _ hi (List.getElem?_eq_getElem (by rw [← h1]; exact (List.getElem?_eq_some_iff.1 hi).1))
  | _ => rfl
theorem SimV.low {C : Cx} {n : Nat} (hC : ∀ p I, C.ρ p = some I → p < n) {s : SV} {v : AV} (h : SimV C s v) : s.lt n = true := by
  induction h with
  | pure h => exact h.low
  | ptr h => simpa [SV.lt] using hC _ _ h
  | eptr h hc => simpa [SV.lt] using hC _ _ h
  | own0 h hc => simpa [SV.lt] using hC _ _ h
  | own h hc => simpa [SV.lt] using hC _ _ h
  | sl h => simpa [SV.lt] using hC _ _ h
  | fn h1 h2 _ _ ih3 ih4 =>
    simp only [SV.lt, Bool.and_eq_true]
    constructor
    · rw [ltL_mem]
      intro s hs
      obtain ⟨i, hi⟩ := List.mem_iff_getElem?.1 hs
      exact ih3 i s _ hi (List.getElem?_eq_getElem (by rw [← h1]; exact (List.getElem?_eq_some_iff.1 hi).1))
    · rw [ltL_mem]
      intro s hs
      obtain ⟨i, hi⟩ := List.mem_iff_getElem?.1 hs
      exact ih4 i s _ hi (List.getElem?_eq_getElem (by rw [← h2]; exact (List.getElem?_eq_some_iff.1 hi).1))
  | agg h1 _ ih =>
    simp only [SV.lt]
    rw [ltL_mem]
    intro s hs
    obtain ⟨i, hi⟩ := List.mem_iff_getElem?.1 hs
    exact ih i s _ hi (List.getElem?_eq_getElem (by rw [← h1]; exact (List.getElem?_eq_some_iff.1 hi).1))
  | tup h1 _ ih =>
    simp only [SV.lt]
    rw [ltL_mem]
    intro s hs
    obtain ⟨i, hi⟩ := List.mem_iff_getElem?.1 hs
    exact ih i s _ hi (List.getElem?_eq_getElem (by rw [← h1]; exact (List.getElem?_eq_some_iff.1 hi).1))

section
variable {P : Program} {tab : Tab} {cfg : Cfg}
structure FrOK (fr : AFrame) (fn : FuncId) (nt : Nat) : Prop where
  fn : fr.fn = fn
  nt : fr.nt = nt
  mode : fr.mode = .run
  defers : fr.defers = []
  kind : fr.kind = .normal
  round : fr.round = none
theorem FrOK.todo {fr : AFrame} {fn : FuncId} {nt : Nat} (h : FrOK fr fn nt) (ts : T AV) (k : List AItem) : FrOK { fr with tmps := ts, todo := k } fn nt := ⟨h.fn, h.nt, h.mode, h.defers, h.kind, h.round⟩
def SI (tab : Tab) (C0 : Cx) (h0 : SH) (a0 : AH) (ta : T AV) (a : AH) (s : St) : Prop := ∃ C, FS C s.ts ta ∧ HS tab C s.h a ∧ Tr C0 s.log C ∧ Grow a0 a ∧ Keep C0 h0 a0 s.log C s.h a

inductive TS (HO : (Fr → SH → List Ev → Prop) → Code → List AItem → Prop) : List SItem → List AItem → Prop
  | nil : TS HO [] []
  | code {k : List SItem} {k' : List AItem} (c : Code) (h : TS HO k k') : TS HO (.code c :: k) (.code c :: k')
  | inBlock {k : List SItem} {k' : List AItem} (id : Nat) (h : TS HO k k') : TS HO (.inBlock id :: k) (.inBlock id :: k')
  | inLoop {k : List SItem} {k' : List AItem} (b : Code) (h : TS HO k k') : TS HO (.inLoop b :: k) (.inLoop b :: k')
  | inScope {k : List SItem} {k' : List AItem} (b : Code) (h : TS HO k k') : TS HO (.inScope b :: k) (.inScope b :: k')
  | inRegion {k : List SItem} {k' : List AItem} (ops : Array Oper) (l : List Nat) (h : TS HO k k') : TS HO (.inRegion ops l :: k) (.inRegion ops l :: k')
  | head {k : List SItem} {k' : List AItem} (chk : Fr → SH → List Ev → Prop) (b : Code) (h : TS HO k k') (ho : HO chk b k') : TS HO (.head chk :: k) (.inLoop b :: k')
theorem TS.exit {HO : (Fr → SH → List Ev → Prop) → Code → List AItem → Prop} {id : Nat} : ∀ {k : List SItem} {k' : List AItem} {k1 : List SItem}, TS HO k k' → exitS id k = some k1 → ∃ k1', Am.exitTo id k' = some k1' ∧ TS HO k1 k1' := by
  intro k k' k1 h
  induction h with
  | nil => intro h; cases h
  | inBlock j h ih =>
    intro he
    simp only [exitS] at he
    simp only [Am.exitTo]
    cases hb : Nat.beq j id
    · rw [hb] at he; exact ih he
    · rw [hb] at he; cases he; exact ⟨_, rfl, h⟩
  | code c h ih => intro he; simp only [exitS] at he; simp only [Am.exitTo]; exact ih he
  | inLoop b h ih => intro he; simp only [exitS] at he; simp only [Am.exitTo]; exact ih he
  | inScope b h ih => intro he; simp only [exitS] at he; simp only [Am.exitTo]; exact ih he
  | inRegion ops l h ih => intro he; simp only [exitS] at he; simp only [Am.exitTo]; exact ih he
  | head chk b h ho ih => intro he; simp only [exitS] at he; simp only [Am.exitTo]; exact ih he

theorem resS_ok (htab : cfg.tab = tab) {C : Cx} {s : St} {ta : T AV} {a : AH} (hF : FS C s.ts ta) (H : HS tab C s.h a) : ∀ {l : List ResultVar} {K : List SV → Prop}, resS cfg s l K → ∃ vs svs, Am.results tab a ta l = .ok vs ∧ SimL C svs vs ∧ K svs := by
  intro l
  induction l with
  | nil => intro K h; exact ⟨[], [], rfl, SimL.nil, h⟩
  | cons x l ih =>
    intro K h
    cases x with
    | tmp t =>
      simp only [resS] at h
      obtain ⟨v, h1, h2⟩ := so_ok h
      obtain ⟨vs, svs, g1, g2, g3⟩ := ih h2
      refine ⟨_, _, ?_, SimL.cons (hF t v h1) g2, g3⟩
      simp only [Am.results]
      rw [rb g1]
    | cell b t =>
      simp only [resS] at h
      rw [htab] at h
      obtain ⟨p, h1, h2⟩ := so_ok h
      obtain ⟨bb, off, u, sv, h3, h4, h5, h6⟩ := loadS_ok H (hF b p h1) h2
      obtain ⟨vs, svs, g1, g2, g3⟩ := ih h6
      refine ⟨_, _, ?_, SimL.cons h5 g2, g3⟩
      simp only [Am.results]
      cases hg : ta.get b with
      | none => rw [hg] at h3; simp at h3
      | some w =>
        rw [hg] at h3
        simp only [Option.getD_some] at h3
        rw [h3]
        simp only
        rw [rb h4, rb g1]
theorem ret_ok (pr : PrOK P tab) (htab : cfg.tab = tab) {fn : FuncId} {nt : Nat} {s : St} {Q : SV → St → Prop} {C0 : Cx} {h0 : SH} {a0 a : AH} {fr : AFrame} (h : retS cfg fn s Q) (hf : FrOK fr fn nt) (hS : SI tab C0 h0 a0 fr.tmps a s)
    (ht : fr.todo = [] ∨ ∃ k, fr.todo = .code .ret :: k) : AGo P { fr, cs := [], h := a } (Post tab C0 h0 a0 Q) := by
  obtain ⟨C, hF, H, hT, hG, hK⟩ := hS
  have hstep : Am.step tab sub0 { fr, cs := [], h := a } = .ok (.next { fr := { fr with mode := .returning }, cs := [], h := a }) := by
    rcases ht with ht | ⟨k, ht⟩
    · simp only [Am.step, hf.mode, ht, Am.leave, hf.round]
    · simp only [Am.step, hf.mode, ht, Am.leave, hf.round]
  refine AGo.next pr hstep ?_
  unfold retS at h
  rw [htab] at h
  split at h
  · rename_i func hfn
    obtain ⟨vs, svs, g1, g2, g3⟩ := resS_ok htab hF H h
    have hdone : Am.step tab sub0 { fr := { fr with mode := .returning }, cs := [], h := a } = .ok (.done (Am.result vs) a) := by
      simp only [Am.step, Am.unwind, hf.defers, hf.fn, hfn]
      rw [rb g1]
      simp only [Am.doReturn, hf.kind]
    refine AGo.done pr hdone ⟨_, s, C, g3, ?_, H, hT, hG, hK⟩
    unfold Am.result
    cases svs with
    | nil => cases vs with
      | nil => exact .tup g2.1 g2.2
      | cons => have := g2.1; simp at this
    | cons x svs => cases vs with
      | nil => have := g2.1; simp at this
      | cons v vs => cases svs with
        | nil => cases vs with
          | nil => exact g2.head.1
          | cons => have := g2.1; simp at this
        | cons y svs => cases vs with
          | nil => have := g2.1; simp at this
          | cons w vs => exact .tup g2.1 g2.2
  · exact h.elim
end
end Go.Sy

namespace Go.Sy
open Go.Am Go.RowKit
universe u v
variable [Inhabited DrP]

section
variable {P : Program} {tab : Tab} {cfg : Cfg}
theorem Keep.trans {C0 C C' : Cx} {h0 h h' : SH} {a0 a a' : AH} {l m : List Ev} (k : Keep C0 h0 a0 l C h a) (k' : Keep C h a m C' h' a') (hf : ∀ i o, C.Fz i = some o → C'.Fz i = some o) (H : ∀ i o, C.Fz i = some o → a.get i = some o) (H' : ∀ i o, C'.Fz i = some o → a'.get i = some o) :
    Keep C0 h0 a0 (l ++ m) C' h' a' := by
  intro p o I hp hI hc hn
  rw [modded_append] at hn
  obtain ⟨g1, g2⟩ := k p o I hp hI hc (fun e => hn (List.mem_append_left _ e))
  rcases g2 with ⟨o', h1, h2⟩ | ⟨b, h1⟩
  · obtain ⟨g3, g4⟩ := k' p o' I h1 h2 hc (fun e => hn (List.mem_append_right _ e))
    exact ⟨g3.trans g1, g4⟩
  · exact ⟨by rw [H' _ _ (hf _ _ h1), ← g1, H _ _ h1], .inr ⟨b, hf _ _ h1⟩⟩
theorem SI.res {C0 C : Cx} {h0 : SH} {a0 a a' : AH} {ta : T AV} {s s' : St} {sv : SV} {v : AV} (H : HS tab C s.h a) (hT : Tr C0 s.log C) (hG : Grow a0 a) (hK : Keep C0 h0 a0 s.log C s.h a) (hr : Res tab C s ta a sv s' v a') :
    ∃ C', SimV C' sv v ∧ FS C' s'.ts ta ∧ HS tab C' s'.h a' ∧ Tr C0 s'.log C' ∧ Grow a0 a' ∧ Keep C0 h0 a0 s'.log C' s'.h a' := by
  obtain ⟨⟨C', new, e1, e2, e3, e4, e5, e6⟩, e7⟩ := hr
  exact ⟨C', e3, e5, e4, by rw [e1]; exact hT.trans e2, hG.trans e7, by rw [e1]; exact hK.trans e6 e2.fz H.fz e4.fz⟩

theorem TodoR.mono {ops : Array Oper} {nt : Nat} {G G' : DS → Prop} (hg : ∀ s, G s → G' s) : ∀ n s, TodoR P tab ops nt G n s → TodoR P tab ops nt G' n s := by
  intro n
  induction n with
  | zero => intro s h; exact h
  | succ n ih =>
    intro s h
    obtain ⟨s1, h1, h2⟩ := h
    refine ⟨s1, h1, h2.imp (fun x => ⟨x.1, hg _ x.2⟩) (fun ⟨c, o, q1, q2, q3, q4⟩ => ⟨c, o, q1, q2, q3, ?_⟩)⟩
    rcases q4 with ⟨v, h1, k1, k2, k3, k4⟩ | ⟨c', f, g, first, captured, args, fn, body, k1, k2, k3, k4, k5, k6, k7⟩
    · exact .inl ⟨v, h1, k1, k2, k3, ih _ k4⟩
    · exact .inr ⟨c', f, g, first, captured, args, fn, body, k1, k2, k3, k4, k5, k6, k7.mono fun v h1 ⟨a, b, c⟩ => ⟨a, b, ih _ c⟩⟩

def DrawsOK (P : Program) (tab : Tab) (cfg : Cfg) (rec : SM → (SV → St → Prop) → Prop) : Prop :=
  ∀ (ops : Array Oper) (nt n : Nat) (s : St) (K : St → Prop) (ta : T AV) (a : AH) (C : Cx), drawS cfg rec ops nt n ⟨s, .e, [], []⟩ K → FS C s.ts ta → HS tab C s.h a →
    TodoR P tab ops nt (fun sF => ∃ s' C' new, K s' ∧ s'.log = s.log ++ new ∧ Tr C new C' ∧ HS tab C' s'.h sF.h ∧ FS C' s'.ts sF.ts ∧ Grow a sF.h ∧ Keep C s.h a new C' s'.h sF.h) n { ts := ta, h := a, anc := .e, reads := [], allocs := [] }

theorem fixC_ok {C : Cx} {s : St} {ta : T AV} {c : Operand} {p : Bool} (hF : FS C s.ts ta) (hc : sev s.ts c = some (.bool p)) : FS C (fixC s c p).ts ta ∧ (fixC s c p).h = s.h ∧ (fixC s c p).log = s.log := by
  obtain ⟨ts, h, log⟩ := s
  cases c with
  | tmp t =>
    refine ⟨?_, rfl, rfl⟩
    intro t' q hq
    simp only [fixC] at hq
    rw [look_cons] at hq
    split at hq
    · rename_i e
      cases hq
      rw [e]
      exact hF t _ hc
    · exact hF t' q hq
  | const v => exact ⟨hF, rfl, rfl⟩
  | func f => exact ⟨hF, rfl, rfl⟩
  | global g => exact ⟨hF, rfl, rfl⟩

mutual
theorem SV.lt_on (e : Ev) : ∀ (s : SV) (n : Nat), s.lt n = true → (s.on e).lt n = true
  | .bool b, n, h => by simp [SV.on, SV.lt]
  | .int k m, n, h => by simp [SV.on, SV.lt]
  | .str s, n, h => by simp [SV.on, SV.lt]
  | .nilp, n, h => by simp [SV.on, SV.lt]
  | .ptr b off, n, h => by
    simp only [SV.on]; cases e <;> simp only <;> first | exact h | (rename_i c; cases Nat.beq b c <;> first | exact h | rfl) | (rename_i c _ _ _; cases Nat.beq b c <;> first | exact h | rfl)
  | .eptr b i off, n, h => by
    simp only [SV.on]; cases e <;> simp only <;> first | exact h | (rename_i c; cases Nat.beq b c <;> first | exact h | rfl) | (rename_i c _ L _; cases Nat.beq b c <;> first | exact h | (simp only [cond_true]; cases L[i]? <;> rfl))
  | .rptr cs off, n, h => by simp [SV.on, SV.lt]
  | .nils, n, h => by simp [SV.on, SV.lt]
  | .sl b off l c, n, h => by
    simp only [SV.on]; cases e <;> simp only <;> first | exact h | (rename_i c; cases Nat.beq b c <;> first | exact h | rfl) | (rename_i c _ _ _; cases Nat.beq b c <;> first | exact h | rfl)
  | .own b, n, h => by
    simp only [SV.on]; cases e <;> simp only <;> first | exact h | (rename_i c; cases Nat.beq b c <;> first | exact h | rfl) | (rename_i c _ _ _; cases Nat.beq b c <;> first | exact h | rfl)
  | .lst X L enc, n, h => by simp [SV.on, SV.lt]
  | .nilm, n, h => by simp [SV.on, SV.lt]
  | .map b, n, h => by simp only [SV.on]; exact h
  | .nilf, n, h => by simp [SV.on, SV.lt]
  | .fn f xs ys, n, h => by
    simp only [SV.lt, Bool.and_eq_true] at h
    simp only [SV.on, SV.lt, SV.ltL_on e xs n h.1, SV.ltL_on e ys n h.2, Bool.and_self]
  | .agg cs, n, h => by
    simp only [SV.lt] at h
    simp only [SV.on, SV.lt, SV.ltL_on e cs n h]
  | .tup cs, n, h => by
    simp only [SV.lt] at h
    simp only [SV.on, SV.lt, SV.ltL_on e cs n h]
  | .any, n, h => by simp [SV.on, SV.lt]
theorem SV.ltL_on (e : Ev) : ∀ (l : List SV) (n : Nat), SV.ltL n l = true → SV.ltL n (SV.onL e l) = true
  | [], n, h => by simp [SV.onL, SV.ltL]
  | v :: l, n, h => by
    simp only [SV.ltL, Bool.and_eq_true] at h
    simp only [SV.onL, SV.ltL, SV.lt_on e v n h.1, SV.ltL_on e l n h.2, Bool.and_self]
end
theorem eqS_ok {C : Cx} {v e : SV} {av : AV} (h : eqS v e) (hv : SimV C v av) : SimV C e av := by
  unfold eqS at h
  split at h
  · rw [← h]; exact hv
  · obtain ⟨h1, h2⟩ := ck_ok h
    have h1 := of_decide_eq_true h1
    rw [← h1, ← h2]; exact hv
  · rw [← h]; exact hv
  · obtain ⟨h1, _⟩ := ck_ok h
    simp only [Bool.and_eq_true] at h1
    rw [← Nat.eq_of_beq_eq_true h1.1, ← Nat.eq_of_beq_eq_true h1.2]; exact hv
  · obtain ⟨h1, _⟩ := ck_ok h
    rw [← Nat.eq_of_beq_eq_true h1]; exact hv
  · exact hv
  · exact hv
  · exact hv
  · exact hv
  · exact .pure (.any _)
  · rw [← h]; exact hv
theorem eqSL_ok {C : Cx} : ∀ {l m : List SV} {vs : List AV}, eqSL l m → SimL C l vs → SimL C m vs := by
  intro l
  induction l with
  | nil => intro m vs h hs; cases m with
    | nil => exact hs
    | cons => exact h.elim
  | cons a l ih => intro m vs h hs; cases m with
    | nil => exact h.elim
    | cons b m =>
      cases vs with
      | nil => have := hs.1; simp at this
      | cons v vs => exact SimL.cons (eqS_ok h.1 hs.head.1) (ih h.2 hs.head.2)
theorem fitT_mem {ts : Fr} {h eh : SH} : ∀ {l : Fr}, fitT ts h eh l → ∀ {t : Nat} {e : SV}, look l t = some e → ∃ v, look ts t = some v ∧ fitV h eh v e := by
  intro l
  induction l with
  | nil => intro _ t e h; cases h
  | cons x l ih =>
    obtain ⟨k, e0⟩ := x
    intro hf t e hl
    rw [look_cons] at hl
    split at hl
    · rename_i ek
      cases hl
      rw [ek]
      exact so_ok hf.1
    · exact ih hf.2 hl
theorem look_mem {α : Type u} : ∀ {l : List (Nat × α)} {t : Nat} {v : α}, look l t = some v → (t, v) ∈ l := by
  intro l
  induction l with
  | nil => intro t v h; cases h
  | cons x l ih =>
    obtain ⟨k, w⟩ := x
    intro t v h
    rw [look_cons] at h
    split at h
    · rename_i e; cases h; rw [e]; exact List.mem_cons_self
    · exact List.mem_cons_of_mem _ (ih h)
theorem fitH_get {h e : SH} : ∀ {n : Nat}, fitHs tab h e n → ∀ p, p < n → fitO tab h.next p (h.get p) (e.get p) := by
  intro n
  induction n with
  | zero => intro _ p hp; omega
  | succ n ih =>
    intro hf p hp
    by_cases e : p = n
    · subst e; exact hf.1
    · exact ih hf.2 p (by omega)

theorem SI.frz {C0 : Cx} {h0 : SH} {a0 a : AH} {ta : T AV} {s : St} (hS : SI tab C0 h0 a0 ta a s) (l : List SV) : SI tab C0 h0 a0 ta a (frzOwn l s) := by
  obtain ⟨C, hF, H, hT, hG, hK⟩ := hS
  obtain ⟨C', new, e, t, H', F', st, _⟩ := frzOwn_ok l s C hF H
  exact ⟨C', F', H', by rw [e]; exact hT.trans t, hG, by rw [e]; exact hK.trans (st.keep new) t.fz H.fz H'.fz⟩
open Classical in
theorem fit_ok (htab : cfg.tab = tab) {C0 C : Cx} {h0 : SH} {a0 a : AH} {ta : T AV} {s : St} {base : Nat} (hC0 : ∀ p I, C0.ρ p = some I → p < base) {log : List Ev} (hnew : (∀ e ∈ s.log, base ≤ e.id) ∧ ∀ e ∈ log, base ≤ e.id) (hF : FS C s.ts ta) (H : HS tab C s.h a) (hT : Tr C0 s.log C) (hG : Grow a0 a) (hK : Keep C0 h0 a0 s.log C s.h a)
    (hb0 : ∀ p o, h0.get p = some o → p < base) {e : Fr × SH} (h1 : fitT s.ts s.h e.2 e.1) (h2 : fitH cfg.tab s.h e.2) (hl : low e.1 e.2 = true) (hbn : base ≤ e.2.next) (hst : stay base s.h e.2 = true) : SI tab C0 h0 a0 ta a ⟨e.1, e.2, log⟩ := by
  obtain ⟨ts, eh⟩ := e
  simp only at h1 h2 hl hbn hst ⊢
  unfold low at hl
  simp only [Bool.and_eq_true, List.all_eq_true] at hl
  obtain ⟨hl1, hl2⟩ := hl
  obtain ⟨hnow, hlog⟩ := hnew
  rw [htab] at h2
  have hfit := fitH_get h2
  -- all that is told of is low
  have hlow : ∀ p o, eh.get p = some o → p < eh.next ∧ o.lt eh.next = true := by
    intro p o hp
    unfold SH.get at hp
    split at hp
    · rename_i o' ho'
      cases hp
      have := hl2 _ (look_mem ho')
      simp only [Nat.blt_eq] at this
      exact this
    · cases hp
  let szOf (t : TypeId) : Nat := (tab.siz.get t).getD 0
  let Cy : Cx := ⟨fun p => if p < eh.next then (match C.ρ p with
      | some I => some I
      | none => match eh.get p with
        | some (.arr _ _ _ t) => some ⟨0, 0, szOf t, none⟩
        | _ => none) else none, C.Fz⟩
  have hρ : ∀ p I, p < eh.next → C.ρ p = some I → Cy.ρ p = some I := by
    intro p I hp hI; simp [Cy, hp, hI]
  have hcut : (C.cut eh.next).le Cy := by
    refine ⟨fun p I hp => ?_, fun _ _ h => h⟩
    simp only [Cx.cut] at hp
    split at hp
    · rename_i hlt; exact hρ p I hlt hp
    · cases hp
  have hval : ∀ {s : SV} {v : AV}, SimV C s v → s.lt eh.next = true → SimV Cy s v := fun h hl => (h.cut hl).le hcut
  have hback : ∀ p I, Cy.ρ p = some I → I.cap.isSome → C.ρ p = some I := by
    intro p I hp hc
    simp only [Cy] at hp
    split at hp
    · split at hp
      · rename_i I' hI'; rw [hI']; exact hp
      · split at hp
        · cases hp; simp at hc
        · cases hp
    · cases hp
  have hlive : ∀ p o I, eh.get p = some o → C.ρ p = some I → ∃ o', s.h.get p = some o' := by
    intro p o I hp hI
    obtain ⟨hlt, _⟩ := hlow p o hp
    have hf := hfit p hlt
    rw [hp] at hf
    cases hs : s.h.get p with
    | some o' => exact ⟨o', rfl⟩
    | none =>
      rw [hs] at hf
      cases o with
      | cells cs t => exact hf.elim
      | arr X L enc t =>
        have := Nat.le_of_ble_eq_true (ck_ok hf).1
        have := H.lt p I hI
        omega
  refine ⟨Cy, ?_, ⟨?_, ?_, H.fz, ?_, ?_, H.wf⟩, ⟨?_, hT.fz⟩, hG, ?_⟩
  · -- values
    intro t ev hev
    obtain ⟨v, hv, hfv⟩ := fitT_mem h1 hev
    have hlt := hl1 _ (look_mem hev)
    have hsv := hF t v hv
    simp only at hlt
    unfold fitV at hfv
    split at hfv
    · rename_i b
      split at hfv
      · rename_i X L enc t' hb1 hb2
        rw [nils_ok hsv]
        obtain ⟨hbl, _⟩ := hlow _ _ hb2
        have hf := hfit _ hbl
        rw [hb1, hb2] at hf
        have hge := Nat.le_of_ble_eq_true (ck_ok hf).1
        have hnone : C.ρ b = none := by
          cases hz : C.ρ b with
          | none => rfl
          | some I => have := H.lt _ _ hz; omega
        exact .own0 (I := ⟨0, 0, szOf t', none⟩) (by simp [Cy, hbl, hnone, hb2]) rfl
      · exact hfv.elim
    · exact hval (eqS_ok hfv hsv) hlt
  · -- blocks
    intro p o hp
    obtain ⟨hlt, hol⟩ := hlow p o hp
    have hf := hfit p hlt
    rw [hp] at hf
    cases hs : s.h.get p with
    | none =>
      rw [hs] at hf
      cases o with
      | cells cs t => exact hf.elim
      | arr X L enc t =>
        obtain ⟨hge, hL, hz⟩ := ck_ok hf
        obtain ⟨n, hn, hz⟩ := so_ok hz
        obtain ⟨hn0, hz⟩ := ck_ok hz
        have hge := Nat.le_of_ble_eq_true hge
        have hnone : C.ρ p = none := by
          cases hz : C.ρ p with
          | none => rfl
          | some I => have := H.lt _ _ hz; omega
        have hsz : szOf t = n := by simp [szOf, hn]
        refine ⟨⟨0, 0, szOf t, none⟩, by simp [Cy, hlt, hnone, hp], ?_⟩
        subst hL
        have hn0 : n ≠ 0 := fun e => by subst e; simp at hn0
        exact ⟨by simp only [hsz]; exact hn, by simp only [hsz]; omega, rfl, fun i x hx => by simp at hx, rfl⟩
    | some o' =>
      rw [hs] at hf
      obtain ⟨I, hI, ho⟩ := H.obj p o' hs
      refine ⟨I, hρ p I hlt hI, ?_⟩
      cases o with
      | cells cs t =>
        cases o' with
        | arr X L enc t' => exact hf.elim
        | cells cs' t' =>
          obtain ⟨htt, hcs⟩ := ck_ok hf
          have htt := Nat.eq_of_beq_eq_true htt
          subst htt
          obtain ⟨q1, ca, sz, q2, q3, q4⟩ := ho
          have q5 := eqSL_ok hcs q3
          exact ⟨q1, ca, sz, q2, ⟨q5.1, fun i x v hx hv => hval (q5.2 i x v hx hv) (ltL_get hol hx)⟩, q4⟩
      | arr X L enc t =>
        cases o' with
        | cells cs' t' => exact hf.elim
        | arr X' L' enc' t' =>
          obtain ⟨htt, hLL⟩ := ck_ok hf
          have htt := Nat.eq_of_beq_eq_true htt
          subst htt
          cases hLL
          exact ho.congr (a' := a) rfl |> fun ho => by
            obtain ⟨g1, g2, g3, g4, g5⟩ := ho
            exact ⟨g1, g2, g3, g4, g5⟩
  · intro p q o o' I J hp hq hI hJ hc hc' e
    have hI' := hback p I hI hc
    have hJ' := hback q J hJ hc'
    obtain ⟨o1, g1⟩ := hlive p o I hp hI'
    obtain ⟨o2, g2⟩ := hlive q o' J hq hJ'
    exact H.inj p q o1 o2 I J g1 g2 hI' hJ' hc hc' e
  · intro p o I hp hI hc
    have hI' := hback p I hI hc
    obtain ⟨o1, g1⟩ := hlive p o I hp hI'
    exact H.dj p o1 I g1 hI' hc
  · intro p I hI
    simp only [Cy] at hI
    split at hI
    · assumption
    · cases hI
  · intro sv v hsv
    have hlt := hsv.low hC0
    have h3 := hT.val _ _ hsv
    rw [onLog_lt _ _ base hlt hnow] at h3
    show SimV Cy (onLog log sv) v
    rw [onLog_lt _ _ base hlt hlog]
    exact hval h3 (hsv.low (fun p I hI => Nat.lt_of_lt_of_le (hC0 p I hI) hbn))
  · intro p o I hp hI hc hn
    have hpb := hb0 p o hp
    have hn' : p ∉ modded s.log := by
      have : ∀ (l : List Ev), (∀ e ∈ l, base ≤ e.id) → p ∉ modded l := by
        intro l
        induction l with
        | nil => intro _ h; cases h
        | cons e l ih =>
          intro he hm
          have h1 := he e List.mem_cons_self
          cases e <;> simp only [modded, Ev.id] at hm h1
          · rcases List.mem_cons.1 hm with rfl | hm
            · omega
            · exact ih (fun e' h' => he e' (List.mem_cons_of_mem _ h')) hm
          · rcases List.mem_cons.1 hm with rfl | hm
            · omega
            · exact ih (fun e' h' => he e' (List.mem_cons_of_mem _ h')) hm
          · exact ih (fun e' h' => he e' (List.mem_cons_of_mem _ h')) hm
      exact this _ hnow
    obtain ⟨g1, g2⟩ := hK p o I hp hI hc hn'
    refine ⟨g1, ?_⟩
    rcases g2 with ⟨o', q1, q2⟩ | g2
    · have := List.all_eq_true.1 hst p (List.mem_range.2 hpb)
      rw [q1] at this
      cases hz : eh.get p with
      | none => rw [hz] at this; cases this
      | some o2 => exact .inl ⟨o2, rfl, hρ p I (by omega) q2⟩
    · exact .inr g2

theorem wp_sound (pr : PrOK P tab) (htab : cfg.tab = tab) (hcon : ∀ g C, cfg.con g = some C → ConOK P tab g C) (hdraw : ∀ rec, RecOK P tab rec → DrawsOK P tab cfg rec) : ∀ n, RecOK P tab (wp cfg n) := by
  have main : ∀ (n : Nat), RecOK P tab (wp cfg n) ∧ ∀ (fn : FuncId) (nt base : Nat) (todo : List SItem) (s : St) (Q : SV → St → Prop) (C0 : Cx) (h0 : SH) (a0 : AH), (∀ p I, C0.ρ p = some I → p < base) → (∀ p o, h0.get p = some o → p < base) → ∀ (fr : AFrame) (a : AH),
      wp cfg n ⟨fn, nt, base, todo, s⟩ Q → FrOK fr fn nt →
      TS (fun chk b k' => ∀ (ts : Fr) (h : SH) (log : List Ev) (fr : AFrame) (a : AH), chk ts h log → fr.todo = .inLoop b :: k' → FrOK fr fn nt → SI tab C0 h0 a0 fr.tmps a ⟨ts, h, log⟩ → AGo P { fr, cs := [], h := a } (Post tab C0 h0 a0 Q)) todo fr.todo →
      SI tab C0 h0 a0 fr.tmps a s → AGo P { fr, cs := [], h := a } (Post tab C0 h0 a0 Q) := by
    intro n
    induction n with
    | zero => exact ⟨fun f fn body args h a C avs Q _ _ h' => h'.elim, fun fn nt base todo s Q C0 h0 a0 _ _ fr a h => h.elim⟩
    | succ n ihn =>
      obtain ⟨ihrec, ih⟩ := ihn
      have walk : ∀ (fn : FuncId) (nt base : Nat) (todo : List SItem) (s : St) (Q : SV → St → Prop) (C0 : Cx) (h0 : SH) (a0 : AH), (∀ p I, C0.ρ p = some I → p < base) → (∀ p o, h0.get p = some o → p < base) → ∀ (fr : AFrame) (a : AH),
          wp cfg (n + 1) ⟨fn, nt, base, todo, s⟩ Q → FrOK fr fn nt →
          TS (fun chk b k' => ∀ (ts : Fr) (h : SH) (log : List Ev) (fr : AFrame) (a : AH), chk ts h log → fr.todo = .inLoop b :: k' → FrOK fr fn nt → SI tab C0 h0 a0 fr.tmps a ⟨ts, h, log⟩ → AGo P { fr, cs := [], h := a } (Post tab C0 h0 a0 Q)) todo fr.todo →
          SI tab C0 h0 a0 fr.tmps a s → AGo P { fr, cs := [], h := a } (Post tab C0 h0 a0 Q) := by
        intro fn nt base todo s Q C0 h0 a0 hC0 hh0 fr a h hf hts hS
        -- one step of control
        have ctl : ∀ (k : List SItem) (k' : List AItem) (s' : St), wp cfg n ⟨fn, nt, base, k, s'⟩ Q → (Am.step tab sub0 { fr, cs := [], h := a } = .ok (.next { fr := { fr with todo := k' }, cs := [], h := a })) →
            TS (fun chk b k' => ∀ (ts : Fr) (h : SH) (log : List Ev) (fr : AFrame) (a : AH), chk ts h log → fr.todo = .inLoop b :: k' → FrOK fr fn nt → SI tab C0 h0 a0 fr.tmps a ⟨ts, h, log⟩ → AGo P { fr, cs := [], h := a } (Post tab C0 h0 a0 Q)) k k' →
            SI tab C0 h0 a0 fr.tmps a s' → AGo P { fr, cs := [], h := a } (Post tab C0 h0 a0 Q) := fun k k' s' hw hstep hk hS' => AGo.next pr hstep (ih fn nt base k s' Q C0 h0 a0 hC0 hh0 _ a hw (hf.todo fr.tmps k') hk hS')
        generalize htodo : fr.todo = todo' at hts
        simp only [wp] at h
        cases hts with
        | nil => exact ret_ok pr htab h hf hS (.inl htodo)
        | inBlock id hk => exact ctl _ _ s h (by simp only [Am.step, hf.mode, htodo]) hk hS
        | inScope b hk => exact ctl _ _ s h (by simp only [Am.step, hf.mode, htodo]) hk hS
        | inLoop b hk => exact ctl _ _ s h (by simp only [Am.step, hf.mode, htodo]) (.code b (.inLoop b hk)) hS
        | head chk b hk ho => exact ho s.ts s.h s.log fr a h htodo hf hS
        | @inRegion k k' ops l hk =>
          cases l with
          | nil => exact ctl _ _ s h (by simp only [Am.step, hf.mode, htodo]) hk hS
          | cons i rest =>
            simp only at h
            split at h
            · rename_i o ho
              obtain ⟨C, hF, H, hT, hG, hK⟩ := hS
              obtain ⟨b, s1, h1, hw, hF1, eh, el⟩ := guardS_ok h hF
              have hfin : ∀ v, fr.finish v = .ok { fr with tmps := fr.put o.dst v, todo := .inRegion ops rest :: k' } := by
                intro v
                unfold AFrame.finish
                rw [htodo]
                simp only [ho, Option.bind_some]
              have hput : ∀ (v : AV), fr.put o.dst v = putT nt fr.tmps o.dst v := by
                intro v
                unfold AFrame.put putT
                rw [hf.nt]
                cases o.dst <;> rfl
              have H1 : HS tab C s1.h a := by rw [eh]; exact H
              have hT1 : Tr C0 s1.log C := by rw [el]; exact hT
              have hK1 : Keep C0 h0 a0 s1.log C s1.h a := by rw [el, eh]; exact hK
              cases b with
              | false =>
                simp only [cond_false] at h1
                obtain ⟨s2, k1, k2, k3, k4⟩ := putS_ok (v := .tup []) h1 hF1 (.pure (.tup rfl (fun i c v hc => by simp at hc)))
                refine AGo.next pr (m' := { fr := { fr with tmps := fr.put o.dst (.tup []), todo := .inRegion ops rest :: k' }, cs := [], h := a }) (by
                  simp only [Am.step, hf.mode, htodo, ho]
                  rw [rb hw]
                  simp only [Bool.false_eq_true, if_false]
                  rw [rb (hfin _), hf.mode]) (ih fn nt base _ s2 Q C0 h0 a0 hC0 hh0 _ a k1 (hf.todo _ _) (.inRegion ops rest hk) ⟨C, ?_, by rw [k3]; exact H1, by rw [k4]; exact hT1, hG, by rw [k3, k4]; exact hK1⟩)
                simp only
                rw [hput]; exact k2
              | true =>
                simp only [cond_true] at h1
                refine AGo.oper1 pr hf.mode htodo ho hw (execS_ok htab ihrec hcon h1 hF1 H1) (fun v => ⟨_, hfin v⟩) ?_
                rintro v a1 ⟨sv, s2, k1, k2⟩ fr' hfr
                rw [hfin v] at hfr
                cases hfr
                obtain ⟨C', q1, q2, q3, q4, q5, q6⟩ := SI.res H1 hT1 hG hK1 k2
                obtain ⟨s3, r1, r2, r3, r4⟩ := putS_ok k1 q2 q1
                refine ih fn nt base _ s3 Q C0 h0 a0 hC0 hh0 _ a1 r1 (hf.todo _ _) (.inRegion ops rest hk) ⟨C', ?_, by rw [r3]; exact q3, by rw [r4]; exact q4, q5, by rw [r3, r4]; exact q6⟩
                simp only
                rw [hput]; exact r2
            · exact h.elim
        | @code k k' c hk =>
          cases c with
          | skip => exact ctl _ _ s h (by simp only [Am.step, hf.mode, htodo]) hk hS
          | label l => exact ctl _ _ s h (by simp only [Am.step, hf.mode, htodo]) hk hS
          | ret => exact ret_ok pr htab h hf hS (.inr ⟨_, htodo⟩)
          | seq x y => exact ctl _ _ s h (by simp only [Am.step, hf.mode, htodo]) (.code x (.code y hk)) hS
          | block id b => exact ctl _ _ s h (by simp only [Am.step, hf.mode, htodo]) (.code b (.inBlock id hk)) hS
          | scope b => exact ctl _ _ s h (by simp only [Am.step, hf.mode, htodo]) (.code b (.inScope b hk)) hS
          | exit id =>
            simp only at h
            split at h
            · rename_i k1 hk1
              obtain ⟨k1', g1, g2⟩ := hk.exit hk1
              exact ctl _ _ s h (by simp only [Am.step, hf.mode, htodo, g1]) g2 hS
            · exact h.elim
          | cond x y z =>
            simp only at h
            split at h
            · rename_i p hp
              obtain ⟨C, hF, H, hT, hG, hK⟩ := hS
              obtain ⟨v, g1, g2⟩ := sev_ok hF hp
              rw [bool_ok g2] at g1
              rcases br_ok h with ⟨rfl, h⟩ | ⟨rfl, h⟩
              · obtain ⟨f1, f2, f3⟩ := fixC_ok hF hp
                exact ctl _ _ _ h (by simp only [Am.step, hf.mode, htodo]; rw [rb g1]) (.code y hk) ⟨C, f1, by rw [f2]; exact H, by rw [f3]; exact hT, hG, by rw [f2, f3]; exact hK⟩
              · obtain ⟨f1, f2, f3⟩ := fixC_ok hF hp
                exact ctl _ _ _ h (by simp only [Am.step, hf.mode, htodo]; rw [rb g1]) (.code z hk) ⟨C, f1, by rw [f2]; exact H, by rw [f3]; exact hT, hG, by rw [f2, f3]; exact hK⟩
            · exact h.elim
          | region id ops d =>
            cases d with
            | false => exact ctl _ _ s h (by simp only [Am.step, hf.mode, htodo]) (.inRegion ops _ hk) hS
            | true =>
              simp only at h
              obtain ⟨hlt, h⟩ := ck_ok h
              obtain ⟨C, hF, H, hT, hG, hK⟩ := hS
              rw [← hf.nt] at h
              have hd := hdraw (wp cfg n) ihrec ops fr.nt _ s _ fr.tmps a C h hF H
              refine AGo.draw pr hf.mode htodo hlt (n := ops.size + 1) (TodoR.mono ?_ _ _ hd)
              rintro sF ⟨s', C', new, k1, k2, k3, k4, k5, k6, k7⟩
              rw [hf.nt] at k1
              exact ih fn nt base _ s' Q C0 h0 a0 hC0 hh0 _ sF.h k1 (hf.todo _ _) hk ⟨C', k5, k4, by rw [k2]; exact hT.trans k3, hG.trans k6, by rw [k2]; exact hK.trans k7 k3.fz H.fz k4.fz⟩
          | loop b =>
            simp only at h
            split at h
            · exact ctl _ _ s h (by simp only [Am.step, hf.mode, htodo]) (.code b (.inLoop b hk)) hS
            · rename_i A0 hA0
              obtain ⟨A, h⟩ := linkS_ok h
              have hS := hS.frz (frzV s.ts A.frz)
              have h : (∃ x : A.α, A.ok x ∧ fitT (frzS A s).ts (frzS A s).h (A.at (frzS A s) x).2 (A.at (frzS A s) x).1 ∧ fitH cfg.tab (frzS A s).h (A.at (frzS A s) x).2 ∧ ck (stay base (frzS A s).h (A.at (frzS A s) x).2) True) ∧
                  ∀ x : A.α, A.ok x → ck ((frzS A s).log.all (fun e => Nat.ble base e.id) && (low (A.at (frzS A s) x).1 (A.at (frzS A s) x).2 && Nat.ble base (A.at (frzS A s) x).2.next)) (wp cfg n ⟨fn, nt, base, .code b :: .head (headS cfg A (frzS A s) base x) :: k, ⟨(A.at (frzS A s) x).1, (A.at (frzS A s) x).2, (frzS A s).log⟩⟩ Q) := h
              have hS : SI tab C0 h0 a0 fr.tmps a (frzS A s) := hS
              generalize frzS A s = s at h hS
              obtain ⟨⟨x0, hx0, hf1, hf2, hf3⟩, hall⟩ := h
              have hrest : ∀ x, A.ok x → (∀ e ∈ s.log, base ≤ e.id) ∧ low (A.at s x).1 (A.at s x).2 = true ∧ base ≤ (A.at s x).2.next ∧ wp cfg n ⟨fn, nt, base, .code b :: .head (headS cfg A s base x) :: k, ⟨(A.at s x).1, (A.at s x).2, s.log⟩⟩ Q := by
                intro x hx
                obtain ⟨g1, g2⟩ := ck_ok (hall x hx)
                simp only [Bool.and_eq_true, List.all_eq_true] at g1
                exact ⟨fun e he => Nat.le_of_ble_eq_true (g1.1 e he), g1.2.1, Nat.le_of_ble_eq_true g1.2.2, g2⟩
              have loop : ∀ (m : Nat) (x : A.α), A.μ x = m → A.ok x → ∀ (fr2 : AFrame) (a2 : AH), fr2.todo = .code b :: .inLoop b :: k' → FrOK fr2 fn nt → SI tab C0 h0 a0 fr2.tmps a2 ⟨(A.at s x).1, (A.at s x).2, s.log⟩ → AGo P { fr := fr2, cs := [], h := a2 } (Post tab C0 h0 a0 Q) := by
                intro m
                induction m using Nat.strongRecOn with
                | _ m ihm =>
                  intro x hm hx fr2 a2 ht2 hf2 hS2
                  obtain ⟨_, _, _, hw⟩ := hrest x hx
                  refine ih fn nt base _ _ Q C0 h0 a0 hC0 hh0 fr2 a2 hw hf2 ?_ hS2
                  rw [ht2]
                  refine .code b (.head _ b hk ?_)
                  intro ts hh log fr3 a3 hchk ht3 hf3 hS3
                  have hS3 := hS3.frz (frzV ts A.frz)
                  have hchk : ck ((frzS A ⟨ts, hh, log⟩).log.all fun e => Nat.ble base e.id) (∃ y : A.α, A.ok y ∧ A.μ y < A.μ x ∧ fitT (frzS A ⟨ts, hh, log⟩).ts (frzS A ⟨ts, hh, log⟩).h (A.at s y).2 (A.at s y).1 ∧ fitH cfg.tab (frzS A ⟨ts, hh, log⟩).h (A.at s y).2 ∧ ck (stay base (frzS A ⟨ts, hh, log⟩).h (A.at s y).2) True) := hchk
                  have hS3 : SI tab C0 h0 a0 fr3.tmps a3 (frzS A ⟨ts, hh, log⟩) := hS3
                  generalize frzS A ⟨ts, hh, log⟩ = s3 at hchk hS3
                  obtain ⟨hcov, y, hy, hμ, q1, q2, q3⟩ := ck_ok hchk
                  obtain ⟨l0, l1, l2, _⟩ := hrest y hy
                  obtain ⟨C, hF, H, hT, hG, hK⟩ := hS3
                  have hpre : (∀ e ∈ s3.log, base ≤ e.id) ∧ ∀ e ∈ s.log, base ≤ e.id := ⟨fun e he => Nat.le_of_ble_eq_true (List.all_eq_true.1 hcov e he), l0⟩
                  have hSy := fit_ok htab hC0 (s := s3) hpre hF H hT hG hK hh0 q1 q2 l1 l2 (ck_ok q3).1
                  refine AGo.next pr (m' := { fr := { fr3 with todo := .code b :: .inLoop b :: k' }, cs := [], h := a3 }) (by simp only [Am.step, hf3.mode, ht3]) ?_
                  exact ihm (A.μ y) (by omega) y rfl hy _ a3 rfl (hf3.todo fr3.tmps _) hSy
              obtain ⟨l0, l1, l2, _⟩ := hrest x0 hx0
              obtain ⟨C, hF, H, hT, hG, hK⟩ := hS
              have hS0 := fit_ok htab hC0 (log := s.log) ⟨l0, l0⟩ hF H hT hG hK hh0 hf1 hf2 l1 l2 (ck_ok hf3).1
              refine AGo.next pr (m' := { fr := { fr with todo := .code b :: .inLoop b :: k' }, cs := [], h := a }) (by simp only [Am.step, hf.mode, htodo]) ?_
              exact loop _ x0 rfl hx0 _ a rfl (hf.todo fr.tmps _) hS0
          | _ => exact h.elim
      refine ⟨?_, walk⟩
      intro f fn body args h a C avs Q hfn hb hw H hs
      refine walk f _ h.next _ _ Q C h a H.lt (fun p o hp => ?_) _ a hw ⟨rfl, ?_, rfl, rfl, rfl, rfl⟩ (.code body .nil) ⟨C, ?_, H, Tr.refl C, Grow.refl a, Keep.same _ _ _ _⟩
      · obtain ⟨I, hI, _⟩ := H.obj p o hp
        exact H.lt p I hI
      · simp only [AFrame.enter]; rw [hs.1]
      · have hlook : ∀ (l : List SV) (k t : Nat), look (Fr.of l k) t = if k ≤ t then l[t - k]? else none := by
          intro l
          induction l with
          | nil => intro k t; simp [Fr.of, look]
          | cons v l ih =>
            intro k t
            simp only [Fr.of, look_cons, ih]
            by_cases h1 : t = k
            · subst h1; simp
            · rw [if_neg h1]
              by_cases h2 : k ≤ t
              · rw [if_pos (by omega), if_pos h2, show t - k = (t - (k + 1)) + 1 from by omega, List.getElem?_cons_succ]
              · rw [if_neg (by omega), if_neg h2]
        intro t q hq
        rw [hlook] at hq
        simp only [Nat.zero_le, if_true, Nat.sub_zero] at hq
        obtain ⟨v, h1, h2⟩ := hs.get hq
        simp only [AFrame.enter]
        rw [T.get_ofList, h1]
        exact h2
  exact fun n => (main n).1
end
end Go.Sy

namespace Go.Sy
open Go.Am Go.RowKit
universe u v
variable [Inhabited DrP]

section
variable {tab : Tab} {ta : T AV}
def Part (h0 h : AH) : Prop := ∀ i o, h0.get i = some o → h.get i = some o
theorem cellsAt_mono {h0 h : AH} (hs : Part h0 h) {b : Nat} {r} (hp : cellsAt h0 b = .ok r) : cellsAt h b = .ok r := by
  unfold cellsAt at hp ⊢
  split at hp
  · rename_i hg; rw [hs _ _ hg]; exact hp
  · cases hp
theorem loadVar_mono {h0 h : AH} (hs : Part h0 h) {t b off : Nat} {r} (hp : Am.loadVar tab h0 t b off = .ok r) : Am.loadVar tab h t b off = .ok r := by
  unfold Am.loadVar readN at hp ⊢
  obtain ⟨p, h1, hp⟩ := R.bind_ok.1 hp
  rw [rb h1]
  split at hp
  · rename_i hc
    simp only [hc, if_true]
    obtain ⟨n, h2, hp⟩ := R.bind_ok.1 hp
    obtain ⟨cs, h3, hp⟩ := R.bind_ok.1 hp
    obtain ⟨c, h4, h3⟩ := R.bind_ok.1 h3
    rw [rb h2, rb (show (cellsAt h b >>= _) = _ from by rw [rb (cellsAt_mono hs h4)]; exact h3)]
    exact hp
  · rename_i hc
    simp only [hc, if_false]
    obtain ⟨c, h4, hp⟩ := R.bind_ok.1 hp
    rw [rb (cellsAt_mono hs h4)]
    exact hp
theorem capLow_mono {h0 h : AH} (hs : Part h0 h) {b : Nat} {c : Cap} {r} (hp : capLow h0 b c = .ok r) : capLow h b c = .ok r := by
  cases c with
  | lit n => exact hp
  | tail k =>
    simp only [capLow] at hp ⊢
    obtain ⟨x, h1, hp⟩ := R.bind_ok.1 hp
    rw [rb (cellsAt_mono hs h1)]; exact hp
theorem sliceOp_mono {h0 h h1 : AH} (hs : Part h0 h) {t : TypeId} {x v : AV} {lo hi : Option Operand} (hp : sliceOp tab ta h0 t x lo hi none = .ok (v, h1)) : sliceOp tab ta h t x lo hi none = .ok (v, h) := by
  unfold sliceOp at hp ⊢
  obtain ⟨d, hd, hp⟩ := R.bind_ok.1 hp
  rw [rb hd]
  split at hp
  · obtain ⟨_, h1, hp⟩ := R.bind_ok.1 hp
    obtain ⟨l, h2, hp⟩ := R.bind_ok.1 hp
    obtain ⟨u, h3, hp⟩ := R.bind_ok.1 hp
    obtain ⟨_, h4, hp⟩ := R.bind_ok.1 hp
    cases hp
    rw [rb h1, rb h2, rb h3, rb h4]
  · obtain ⟨_, h0, hp⟩ := R.bind_ok.1 hp
    obtain ⟨l, h1, hp⟩ := R.bind_ok.1 hp
    obtain ⟨u, h2, hp⟩ := R.bind_ok.1 hp
    obtain ⟨m, h3, hp⟩ := R.bind_ok.1 hp
    obtain ⟨_, h4, hp⟩ := R.bind_ok.1 hp
    cases hp
    rw [rb h0, rb h1, rb h2, rb h3, rb h4]
  · rename_i cap _
    obtain ⟨c, h0, hp⟩ := R.bind_ok.1 hp
    obtain ⟨n, h1, hp⟩ := R.bind_ok.1 hp
    obtain ⟨l, h2, hp⟩ := R.bind_ok.1 hp
    obtain ⟨u, h3, hp⟩ := R.bind_ok.1 hp
    rw [rb (capLow_mono hs h0), rb h1, rb h2, rb h3]
    simp only at hp ⊢
    cases cap with
    | lit m =>
      simp only at hp ⊢
      obtain ⟨_, h4, hp⟩ := R.bind_ok.1 hp
      cases hp
      rw [rb h4]
    | tail k =>
      simp only at hp ⊢
      obtain ⟨_, h4, hp⟩ := R.bind_ok.1 hp
      rw [rb h4]
      cases h5 : Nat.beq l 0 <;> rw [h5] at hp <;> simp only [cond_true, cond_false] at hp ⊢
      · cases h6 : Nat.blt l c <;> rw [h6] at hp <;> simp only [cond_true, cond_false] at hp ⊢ <;> (cases hp; rfl)
      · cases hp; rfl
  · obtain ⟨_, h0, hp⟩ := R.bind_ok.1 hp
    obtain ⟨l, h1, hp⟩ := R.bind_ok.1 hp
    obtain ⟨u, h2, hp⟩ := R.bind_ok.1 hp
    obtain ⟨_, h4, hp⟩ := R.bind_ok.1 hp
    cases hp
    rw [rb h0, rb h1, rb h2, rb h4]
  · obtain ⟨_, h0, hp⟩ := R.bind_ok.1 hp
    obtain ⟨l, h1, hp⟩ := R.bind_ok.1 hp
    obtain ⟨u, h2, hp⟩ := R.bind_ok.1 hp
    obtain ⟨_, h4, hp⟩ := R.bind_ok.1 hp
    cases hp
    rw [rb h0, rb h1, rb h2, rb h4]
  · cases hp
theorem eqOp_mono {h0 h : AH} (hs : Part h0 h) {t : TypeId} {x y : AV} {r} (hp : eqOp tab h0 t x y = .ok r) : eqOp tab h t x y = .ok r := by
  unfold eqOp at hp ⊢
  split at hp
  · obtain ⟨d, hd, hp⟩ := R.bind_ok.1 hp
    rw [rb hd]
    split at hp
    · obtain ⟨n, h1, hp⟩ := R.bind_ok.1 hp
      obtain ⟨_, h2, hp⟩ := R.bind_ok.1 hp
      rw [rb h1, rb h2]
      split at hp
      · rename_i hc; simp only [hc, if_true]; exact hp
      · rename_i hc
        simp only [hc, if_false]
        split at hp
        · rename_i g1 g2; rw [hs _ _ g1, hs _ _ g2]; exact hp
        · cases hp
    · cases hp
  · exact hp
  · cases hp
  · exact hp
theorem binOp_mono {h0 h : AH} (hs : Part h0 h) {op : BinOp} {t : TypeId} {x y : AV} {r} (hp : Am.binOp tab h0 op t x y = .ok r) : Am.binOp tab h op t x y = .ok r := by
  unfold Am.binOp at hp ⊢
  split at hp
  · exact hp
  · exact hp
  · exact hp
  · exact hp
  · obtain ⟨b, h1, hp⟩ := R.bind_ok.1 hp
    rw [rb (eqOp_mono hs h1)]; exact hp
  · obtain ⟨b, h1, hp⟩ := R.bind_ok.1 hp
    rw [rb (eqOp_mono hs h1)]; exact hp
  · cases hp
theorem lenOf_mono {h0 h : AH} (hs : Part h0 h) {u : TypeDesc} {x : AV} {r} (hp : lenOf h0 u x = .ok r) : lenOf h u x = .ok r := by
  unfold lenOf at hp ⊢
  split at hp
  · exact hp
  · exact hp
  · exact hp
  · exact hp
  · exact hp
  · exact hp
  · obtain ⟨q, h1, hp⟩ := R.bind_ok.1 hp
    unfold mapAt at h1 ⊢
    split at h1
    · rename_i hg
      cases h1
      simp only [hs _ _ hg]
      exact hp
    · cases h1
  · exact hp
  · cases hp
theorem builtin_mono {h0 h h1 : AH} (hs : Part h0 h) {ats : Array TypeId} {l : List AV} {b : Builtin} (hb : b = .len ∨ b = .min ∨ b = .max) {v : AV} (hp : Am.builtin tab b ats l h0 = .ok (v, h1)) : Am.builtin tab b ats l h = .ok (v, h) := by
  rcases hb with rfl | rfl | rfl
  · cases l with
    | nil => cases hp
    | cons x l =>
      cases l with
      | cons y l => cases hp
      | nil =>
        unfold Am.builtin at hp ⊢
        simp only at hp ⊢
        obtain ⟨t, h1, hp⟩ := R.bind_ok.1 hp
        obtain ⟨u, h2, hp⟩ := R.bind_ok.1 hp
        rw [rb h1, rb h2]
        split at hp
        · obtain ⟨w, h3, hp⟩ := R.bind_ok.1 hp
          rw [rb h3]
          split at hp
          · cases hp; rfl
          · cases hp
        · obtain ⟨n, h3, hp⟩ := R.bind_ok.1 hp
          rw [rb (lenOf_mono hs h3)]
          cases hp; rfl
  · cases l with
    | nil => cases hp
    | cons x l =>
      cases x <;> first | (cases hp; done) | skip
      unfold Am.builtin at hp ⊢
      simp only at hp ⊢
      obtain ⟨t, h1, hp⟩ := R.bind_ok.1 hp
      rw [rb h1]; cases hp; rfl
  · cases l with
    | nil => cases hp
    | cons x l =>
      cases x <;> first | (cases hp; done) | skip
      unfold Am.builtin at hp ⊢
      simp only at hp ⊢
      obtain ⟨t, h1, hp⟩ := R.bind_ok.1 hp
      rw [rb h1]; cases hp; rfl
def lkd (op : Op) : Bool :=
  match op with
  | .lookup .. | .entry _ | .typeAssert .. => false
  | .slice _ _ _ _ (some _) => false
  | .call c => match c.callee with | .builtin .cap => false | _ => true
  | _ => true
theorem pureOp_mono {o : Oper} (hc : cls tab o = .pure ∨ cls tab o = .read) (hlk : lkd o.op = true)
    {h0 h h1 : AH} (hs : Part h0 h) {v : AV} (hp : pureOp tab ta h0 o = .ok (v, h1)) : pureOp tab ta h o = .ok (v, h) := by
  obtain ⟨dst, op, type, pos, after, guard⟩ := o
  unfold pureOp at hp ⊢
  cases op <;> simp only [cls] at hc <;> simp only at hp ⊢
  case slice t x lo hi mx =>
    cases mx with
    | some m => cases hlk
    | none =>
      obtain ⟨a, ha, hp⟩ := R.bind_ok.1 hp
      rw [rb ha]; exact sliceOp_mono hs hp
  case load t a =>
    obtain ⟨p, h1, hp⟩ := R.bind_ok.1 hp
    rw [rb h1]
    split at hp
    · obtain ⟨u, h2, hp⟩ := R.bind_ok.1 hp
      rw [rb (loadVar_mono hs h2)]; cases hp; rfl
    · cases hp
  case binOp op t x y e =>
    obtain ⟨p, h1, hp⟩ := R.bind_ok.1 hp
    obtain ⟨q, h2, hp⟩ := R.bind_ok.1 hp
    obtain ⟨u, h3, hp⟩ := R.bind_ok.1 hp
    rw [rb h1, rb h2, rb (binOp_mono hs h3)]; cases hp; rfl
  case convert src dst x =>
    obtain ⟨k, j, e1, e2⟩ := clsConv2 hc
    obtain ⟨w, h1, hp⟩ := R.bind_ok.1 hp
    obtain ⟨i, n, rfl, rfl, _⟩ := convNum e1 e2 hp
    rw [rb h1]
    exact convNum_mk e1 e2 i n h
  case lookup => cases hlk
  case entry => cases hlk
  case typeAssert => cases hlk
  case call c =>
    cases hcc : c.callee with
    | builtin b =>
      rw [hcc] at hp hc
      simp only at hp hc ⊢
      obtain ⟨l, hl, hp⟩ := R.bind_ok.1 hp
      rw [rb hl]
      cases b <;> first
        | exact builtin_mono hs (.inl rfl) hp
        | exact builtin_mono hs (.inr (.inl rfl)) hp
        | exact builtin_mono hs (.inr (.inr rfl)) hp
        | (simp only [lkd, hcc] at hlk; cases hlk; done)
        | (rcases hc with hc | hc <;> cases hc)
    | value f => rw [hcc] at hp; cases hp
    | invoke r m => rw [hcc] at hp; cases hp
  all_goals first
    | (rcases hc with hc | hc <;> cases hc; done)
    | skip
  all_goals (repeat' first
    | (cases hp; done)
    | (cases hp; rfl)
    | (obtain ⟨_, hx, hp⟩ := R.bind_ok.1 hp; rw [rb hx]; clear hx)
    | split at hp)
end
end Go.Sy

namespace Go.Sy
open Go.Am Go.RowKit
universe u v
variable [Inhabited DrP]

section
variable {tab : Tab} {view : TypeId → Option View} {C : Cx} {s : St} {ta : T AV} {a : AH} {h : SH}
def Look (C : Cx) (s : St) (a : AH) (K : SV → St → Prop) (r : R (AV × AH)) : Prop := ∃ sv v, K sv s ∧ r = .ok (v, a) ∧ SimV C sv v
theorem Look.same {K : SV → St → Prop} {sv : SV} {v : AV} (hv : SimV C sv v) (hk : K sv s) : Look C s a K (.ok (v, a)) := ⟨sv, v, hk, rfl, hv⟩
theorem Look.val {K : SV → St → Prop} {r : R AV} (h : Val C (fun v => K v s) r) : Look C s a K (do .ok (← r, a)) := by
  obtain ⟨sv, v, h1, h2, h3⟩ := h
  rw [rb h1]
  exact Look.same h2 h3
theorem sliceS_look (hF : FS C s.ts ta) (H : HS tab C s.h a) {t : TypeId} {x : SV} {v : AV} (hv : SimV C x v) {lo hi : Option Operand} {K : SV → St → Prop} (hK : ∀ sv s1, K sv s1 → s1.log = s.log) (h : sliceS tab s t x lo hi K) : Look C s a K (sliceOp tab ta a t v lo hi none) := by
  unfold sliceS at h
  obtain ⟨l, h1, hl⟩ := natO_ok hF h
  obtain ⟨u, h2, hu⟩ := natO_ok hF h1
  clear h h1
  have h := h2
  clear h2
  have o1 : ∀ d : R Nat, optNat ta d lo = optV l d := fun d => (hl d).1
  have o2 : ∀ d : R Nat, optNat ta d hi = optV u d := fun d => (hu d).1
  clear hl hu
  split at h
  · rename_i c hg
    rw [str_ok hv]
    obtain ⟨h1, h2, h3⟩ := cutL_ok h
    unfold sliceOp
    rw [rb (show und tab t = _ from ro hg)]
    simp only
    rw [rb (show R.check "slice: max" (none : Option Operand).isNone = .ok () from rfl), rb (show optNat ta (.ok 0) lo = .ok (l.getD 0) from by rw [o1]; cases l <;> rfl), rb (show optNat ta (.ok c.length) hi = .ok (u.getD c.length) from by rw [o2]; cases u <;> rfl),
      rb (rc (by simp only [Bool.and_eq_true, Nat.ble_eq]; omega))]
    exact Look.same (.pure (.str _)) h3
  · rename_i e X L enc hg
    split at h
    · rename_i n hn
      obtain ⟨hlen, h⟩ := h
      obtain ⟨h1, h2, h3⟩ := cutL_ok h
      obtain ⟨w, h4, h5⟩ := sliceL_ok hg hn H.fz (pure_ok hv rfl) hlen o1 o2 h1 h2
      rw [h4]
      exact Look.same (.pure h5) h3
    · exact h.elim
  · rename_i e b hg
    split at h
    · rename_i X L enc t' n hb hn
      obtain ⟨hlen, h⟩ := h
      obtain ⟨h1, h2, h3⟩ := cutL_ok h
      obtain ⟨C', e1, e2, e3, e4, e5, e6⟩ := St.frz_ok hF H hb
      obtain ⟨w, h4, h5⟩ := sliceL_ok hg hn e3.fz (e5 v hv) hlen o1 o2 h1 h2
      have := hK _ _ h3
      rw [e1] at this
      simp at this
    · exact h.elim
  · rename_i e b off len cap hg
    split at h
    · rename_i n hn
      obtain ⟨h1, h2⟩ := ck_ok h
      simp only [Bool.and_eq_true] at h1
      cases hv with
      | pure hv => cases hv
      | sl hI =>
        unfold sliceOp
        rw [rb (show und tab t = _ from ro hg)]
        simp only
        rw [rb (show capLow a _ (.lit cap) = .ok cap from rfl), rb (show siz tab e = .ok n from ro hn), rb (show optNat ta (.ok 0) lo = .ok (l.getD 0) from by rw [o1]; cases l <;> rfl),
          rb (show optNat ta (.ok len) hi = .ok (u.getD len) from by rw [o2]; cases u <;> rfl),
          rb (rc (by simp only [Bool.and_eq_true]; exact h1))]
        exact Look.same (.sl hI) h2
    · exact h.elim
  · exact h.elim

theorem builtinS_look (hF : FS C s.ts ta) (H : HS tab C s.h a) {b : Builtin} {ats : Array TypeId} {l : List SV} {vs : List AV} (hl : SimL C l vs) (hb : b = .len ∨ b = .min ∨ b = .max) {K : SV → St → Prop} (h : builtinS tab view s b ats l K) : Look C s a K (Am.builtin tab b ats vs a) := by
  unfold builtinS at h
  split at h
  · -- len
    rename_i x
    have hv : ∃ v, vs = [v] ∧ SimV C x v := by
      cases vs with
      | nil => have := hl.1; simp at this
      | cons v vs => cases vs with
        | nil => exact ⟨v, rfl, hl.head.1⟩
        | cons => have := hl.1; simp at this
    obtain ⟨v, rfl, hx⟩ := hv
    unfold Am.builtin
    simp only
    cases ht : ats[0]? with
    | none => rw [ht] at h; simp at h
    | some t =>
      rw [ht] at h
      simp only [Option.bind_some] at h
      rw [rb (ro rfl)]
      split at h
      · rename_i hg
        split at h
        · rw [str_ok hx, rb (show und tab t = _ from ro hg)]
          exact Look.same (.pure (.int _ _)) h
        · exact h.elim
      · rename_i e hg
        obtain ⟨n, h1, h2⟩ := so_ok h
        rw [rb (show und tab t = _ from ro hg)]
        simp only
        rw [rb (lenS_ok H hx h1)]
        exact Look.same (.pure (.int _ _)) h2
      · exact h.elim
  · rcases hb with hb | hb | hb <;> cases hb
  · -- min
    rename_i k x l
    cases vs with
    | nil => have := hl.1; simp at this
    | cons v vs =>
      obtain ⟨h1, h2⟩ := hl.head
      rw [int_ok h1]
      obtain ⟨sv, h3, h4⟩ := so_ok h
      obtain ⟨v, h5, h6⟩ := minS_ok h2 h3
      unfold Am.builtin
      simp only
      rw [rb h5]
      exact Look.same h6 h4
  · -- max
    rename_i k x l
    cases vs with
    | nil => have := hl.1; simp at this
    | cons v vs =>
      obtain ⟨h1, h2⟩ := hl.head
      rw [int_ok h1]
      obtain ⟨sv, h3, h4⟩ := so_ok h
      obtain ⟨v, h5, h6⟩ := maxS_ok h2 h3
      unfold Am.builtin
      simp only
      rw [rb h5]
      exact Look.same h6 h4
  · exact h.elim

theorem sop_look (hF : FS C s.ts ta) (H : HS tab C s.h a) {o : Oper} (hc : cls tab o = .pure ∨ cls tab o = .read) {K : SV → St → Prop} (hK : ∀ sv s1, K sv s1 → s1.log = s.log) (h : sop tab view s o K) : lkd o.op = true ∧ Look C s a K (pureOp tab ta a o) := by
  obtain ⟨dst, op, type, pos, after, guard⟩ := o
  unfold sop at h
  unfold pureOp
  have same1 : ∀ {x : Operand} {K' : SV → Prop}, so (sev s.ts x) K' → ∃ sv v, ev ta x = .ok v ∧ SimV C sv v ∧ K' sv := by
    intro x K' h
    obtain ⟨sv, h1, h2⟩ := so_ok h
    obtain ⟨v, h3, h4⟩ := sev_ok hF h1
    exact ⟨sv, v, h3, h4, h2⟩
  cases op <;> simp only at h ⊢ <;> simp only [cls, lkd] at hc ⊢
  case move x =>
    refine ⟨trivial, ?_⟩
    obtain ⟨sv, v, h3, h4, h2⟩ := same1 h
    rw [evR h3]; exact Look.same h4 h2
  case assign x =>
    refine ⟨trivial, ?_⟩
    obtain ⟨sv, v, h3, h4, h2⟩ := same1 h
    rw [evR h3]; exact Look.same h4 h2
  case pick c x y =>
    refine ⟨trivial, ?_⟩
    split at h
    · rename_i p hc
      obtain ⟨v, h3, h4⟩ := sev_ok hF hc
      rw [bool_ok h4] at h3
      rw [evR h3]
      split at h
      · rename_i p1 p2 hx hy
        obtain ⟨u, g1, g2⟩ := sev_ok hF hx
        obtain ⟨w, g3, g4⟩ := sev_ok hF hy
        rw [bool_ok g2] at g1
        rw [bool_ok g4] at g3
        cases p
        · simp only; rw [evR g3]; exact Look.same (.pure (.bool _)) h
        · simp only; rw [evR g1]; exact Look.same (.pure (.bool _)) h
      · rcases br_ok h with ⟨rfl, h⟩ | ⟨rfl, h⟩
        · obtain ⟨sv, v, h3, h4, h2⟩ := same1 h
          simp only; rw [evR h3]; exact Look.same h4 h2
        · obtain ⟨sv, v, h3, h4, h2⟩ := same1 h
          simp only; rw [evR h3]; exact Look.same h4 h2
    · exact h.elim
  case build t ps =>
    refine ⟨trivial, ?_⟩
    obtain ⟨l, h1, h2⟩ := so_ok h
    obtain ⟨sv, h3, h4⟩ := so_ok h2
    obtain ⟨vs, g1, g2, g3⟩ := partsS_ok hF h1
    obtain ⟨v, g4, g5⟩ := buildS_ok g2 g3 h3
    rw [rb g1, rb g4]; exact Look.same g5 h4
  case load t x =>
    refine ⟨trivial, ?_⟩
    obtain ⟨sv, v, h3, h4, h2⟩ := same1 h
    obtain ⟨b, off, u, su, rfl, g1, g2, g3⟩ := loadS_ok H h4 h2
    rw [evR h3]; simp only; rw [rb g1]; exact Look.same g2 g3
  case nilCheck x =>
    refine ⟨trivial, ?_⟩
    obtain ⟨sv, v, h3, h4, h2⟩ := same1 h
    rw [evR h3]
    split at h2
    · cases h4 with
      | pure h => cases h
      | ptr hI => exact Look.same (.ptr hI) h2
    · cases h4 with
      | pure h => cases h
      | eptr hI hc => exact Look.same (.eptr hI hc) h2
    · cases h4 with
      | pure h => cases h with
        | rptr b base ca e sz ext bk u hb hl h1 h2' => exact Look.same (.pure (.rptr b base ca e sz ext bk u hb hl h1 h2')) h2
    · cases h4 with
      | pure h => cases h with
        | fn h1 h2' h3' h4' => exact Look.same (.pure (.fn h1 h2' h3' h4')) h2
      | fn h1 h2' h3' h4' => exact Look.same (.fn h1 h2' h3' h4') h2
    · exact h2.elim
  case binOp op t x y _ =>
    refine ⟨trivial, ?_⟩
    obtain ⟨sv, v, h3, h4, h2⟩ := same1 h
    obtain ⟨sw, w, g3, g4, g2⟩ := same1 h2
    rw [evR h3, evR g3]; exact Look.val (sbin_ok g2 h4 g4)
  case unOp op _ x =>
    refine ⟨trivial, ?_⟩
    obtain ⟨sv, v, h3, h4, h2⟩ := same1 h
    rw [evR h3]; exact Look.val (sun_ok h2 h4)
  case makeFunc fn first captured =>
    refine ⟨trivial, ?_⟩
    split at h
    · obtain ⟨xs, h1, h2⟩ := so_ok h
      obtain ⟨ys, h3, h4⟩ := so_ok h2
      obtain ⟨us, g1, g2⟩ := sevs_ok hF h1
      obtain ⟨vs, g3, g4⟩ := sevs_ok hF h3
      simp only
      rw [rb g1, rb g3]; exact Look.same (.fn g2.1 g4.1 g2.2 g4.2) h4
    · exact h.elim
  case fieldAddr st x f =>
    refine ⟨trivial, ?_⟩
    obtain ⟨fd, h1, h2⟩ := so_ok h
    obtain ⟨hck, h3⟩ := ck_ok h2
    obtain ⟨sv, v, h4, h5, h6⟩ := same1 h3
    rw [rb (fieldS_ok h1)]
    split at hck
    · rename_i n hn
      rw [rb (show siz tab fd.type = _ from ro hn), rb (rc hck), evR h4]
      split at h6
      · cases h5 with
        | pure h => cases h
        | ptr hI => exact Look.same (.ptr hI) h6
      · cases h5 with
        | pure h => cases h
        | eptr hI hc => simp only [Nat.add_assoc]; exact Look.same (.eptr hI hc) h6
      · cases h5 with
        | pure h => cases h with
          | rptr b base ca e sz ext bk u hb hl h1 h2' => simp only [Nat.add_assoc]; exact Look.same (.pure (.rptr b base ca e sz ext bk u hb hl h1 h2')) h6
      · exact h6.elim
    · cases hck
  case field t x f =>
    refine ⟨trivial, ?_⟩
    obtain ⟨fd, h1, h2⟩ := so_ok h
    obtain ⟨sv, v, h4, h5, h6⟩ := same1 h2
    rw [rb (fieldS_ok h1), evR h4]
    split at h6
    · obtain ⟨us, rfl, g1⟩ := agg_ok h5
      obtain ⟨su, g2, g3⟩ := so_ok h6
      obtain ⟨u, g4, g5⟩ := partS_ok g1 g2
      simp only
      rw [rb g4]; exact Look.same g5 g3
    · exact h6.elim
  case indexAddr t x ix =>
    refine ⟨trivial, ?_⟩
    obtain ⟨sj, vj, h1, h2, h3⟩ := same1 h
    obtain ⟨i, h4, h5⟩ := natS_ok h3 h2
    obtain ⟨sv, v, h6, h7, h8⟩ := same1 h5
    rw [evR h1, rb h4]
    split at h8
    · rename_i len e b off hg
      split at h8
      · rename_i n hn
        obtain ⟨g1, g2⟩ := ck_ok h8
        rw [rb (show und tab t = _ from ro hg), evR h6]
        cases h7 with
        | pure h => cases h
        | ptr hI => simp only; rw [rb (rc g1), rb (show siz tab e = _ from ro hn)]; exact Look.same (.ptr hI) g2
      · exact h8.elim
    · rename_i e b off len cap hg
      split at h8
      · rename_i n hn
        obtain ⟨g1, g2⟩ := ck_ok h8
        rw [rb (show und tab t = _ from ro hg), evR h6]
        cases h7 with
        | pure h => cases h
        | sl hI => simp only; rw [rb (rc g1), rb (show siz tab e = _ from ro hn)]; exact Look.same (.ptr hI) g2
      · exact h8.elim
    · rename_i e X L enc hg
      split at h8
      · rename_i n hn
        obtain ⟨x, g1, g2⟩ := so_ok h8
        obtain ⟨g2, g3⟩ := ck_ok g2
        have g2 := Nat.eq_of_beq_eq_true g2
        have hi := (List.getElem?_eq_some_iff.1 g1).1
        obtain ⟨b, off, cap, cs, e', sz, ext, bk, rfl, hb, hs, hl, hsz, hc, hcell⟩ := lst_ok (pure_ok h7 rfl) (by rintro rfl; simp at hi)
        obtain ⟨sz0, ext0, hb, hx0⟩ := hb
        have hszn : sz = n := by rw [← hsz i x g1]; exact g2
        subst hszn
        rw [rb (show und tab t = _ from ro hg), evR h6]
        simp only
        rw [rb (rc (by simpa using hi)), rb (show siz tab e = _ from ro hn)]
        refine Look.same (.pure ?_) g3
        refine .rptr b (off + i * sz) cs e' sz0 ext0 bk (fun j => (cs[off + i * sz + j]?).getD (.tup [])) hb ?_ ?_ ?_
        · rw [g2]
          have : i * sz + sz ≤ L.length * sz := by
            calc i * sz + sz = (i + 1) * sz := by rw [Nat.add_mul, Nat.one_mul]
              _ ≤ L.length * sz := Nat.mul_le_mul_right _ hi
          omega
        · intro j v hv
          obtain ⟨u, q1, _⟩ := hcell i x j v g1 hv
          rw [q1]; rfl
        · intro j v hv
          obtain ⟨u, q1, q2⟩ := hcell i x j v g1 hv
          rw [q1]; exact q2
      · exact h8.elim
    · rename_i e b hg
      split at h8
      · rename_i n X L enc e' hn hb
        obtain ⟨g1, g2⟩ := ck_ok h8
        simp only [Bool.and_eq_true] at g1
        have hee := Nat.eq_of_beq_eq_true g1.1
        subst hee
        have hi : i < L.length := by simpa using g1.2
        rw [rb (show und tab t = _ from ro hg), evR h6]
        cases h7 with
        | pure h => cases h
        | own0 hI hc =>
          obtain ⟨_, _, _, _, k5⟩ := H.at_ hb hI
          rw [hc] at k5; omega
        | own hI hc =>
          rename_i I c
          obtain ⟨k1, k2, k3, _, k5⟩ := H.at_ hb hI
          have hsz : I.sz = n := by rw [hn] at k1; exact (Option.some.inj k1).symm
          simp only
          rw [rb (rc (by rw [k3]; simpa using hi)), rb (show siz tab e = _ from ro hn)]
          have hh : SimV C (.eptr b i 0) (.ptr I.β (i * I.sz + 0)) := .eptr hI (by simp [hc])
          rw [hsz, Nat.add_zero] at hh
          rw [Nat.zero_add]
          exact Look.same hh g2
      · exact h8.elim
    · exact h8.elim
  case index t x ix =>
    refine ⟨trivial, ?_⟩
    obtain ⟨sj, vj, h1, h2, h3⟩ := same1 h
    obtain ⟨i, h4, h5⟩ := natS_ok h3 h2
    obtain ⟨sv, v, h6, h7, h8⟩ := same1 h5
    rw [evR h1, rb h4]
    split at h8
    · rename_i len e cs hg
      split at h8
      · rename_i n hn
        obtain ⟨g1, g2⟩ := ck_ok h8
        obtain ⟨su, g3, g4⟩ := so_ok g2
        obtain ⟨us, rfl, g5⟩ := agg_ok h7
        obtain ⟨u, g6, g7⟩ := partS_ok g5 g3
        rw [rb (show und tab t = _ from ro hg), evR h6]
        simp only
        rw [rb (rc g1), rb (show siz tab e = _ from ro hn), rb g6]; exact Look.same g7 g4
      · exact h8.elim
    · rename_i c hg
      obtain ⟨b, g1, g2⟩ := so_ok h8
      rw [rb (show und tab t = _ from ro hg), evR h6, str_ok h7]
      simp only
      rw [rb (ro g1)]; exact Look.same (.pure (.int _ _)) g2
    · exact h8.elim
  case extract t i =>
    refine ⟨trivial, ?_⟩
    obtain ⟨sv, v, h6, h7, h8⟩ := same1 h
    rw [evR h6]
    split at h8
    · obtain ⟨us, rfl, g5⟩ := tup_ok h7
      obtain ⟨su, g3, g4⟩ := so_ok h8
      obtain ⟨u, g6, g7⟩ := g5.get g3
      simp only
      rw [rb (ro g6)]; exact Look.same g7 g4
    · exact h8.elim
  case slice t x lo hi mx =>
    cases mx with
    | some m => exact h.elim
    | none =>
      refine ⟨rfl, ?_⟩
      obtain ⟨sv, v, h3, h4, h2⟩ := same1 h
      rw [evR h3]; exact sliceS_look hF H h4 hK h2
  case call c =>
    split at h
    · rename_i b hb
      obtain ⟨l, h1, h2⟩ := so_ok h
      obtain ⟨vs, g1, g2⟩ := sevs_ok hF h1
      rw [hb] at hc ⊢; simp only at hc ⊢; rw [rb g1]
      cases b <;> simp only at hc ⊢ <;> first | (rcases hc with hc | hc <;> cases hc; done) | skip
      case len => exact ⟨trivial, builtinS_look hF H g2 (.inl rfl) h2⟩
      case min => exact ⟨trivial, builtinS_look hF H g2 (.inr (.inl rfl)) h2⟩
      case max => exact ⟨trivial, builtinS_look hF H g2 (.inr (.inr rfl)) h2⟩
      case cap => unfold builtinS at h2; exact h2.elim
    · exact h.elim
  case convert src dst x =>
    refine ⟨trivial, ?_⟩
    obtain ⟨k0, j0, e1, e2⟩ := clsConv2 hc
    obtain ⟨sv, v, h3, h4, h2⟩ := same1 h
    rw [evR h3]
    unfold convS at h2
    split at h2
    · rename_i d k i n hs hd
      rw [e2] at hd
      cases hd
      rw [int_ok h4, convNum_mk e1 e2]
      exact Look.same (.pure (.int _ _)) h2
    all_goals first
      | exact h2.elim
      | (rename_i hd; rw [e2] at hd; cases hd; done)
  all_goals first | exact h.elim | (rcases hc with hc | hc <;> cases hc)
end
end Go.Sy

namespace Go.Sy
open Go.Am Go.RowKit
universe u v
variable [Inhabited DrP]

section
variable {tab : Tab} {view : TypeId → Option View} {C : Cx} {s : St} {ta : T AV} {a : AH}
def Made (tab : Tab) (C : Cx) (s : St) (a : AH) (K : SV → St → Prop) (r : AH → R (AV × AH)) : Prop :=
  ∃ sv v so ao I, K sv (s.new so) ∧ (∀ h' : AH, h'.next = a.next → r h' = .ok (v, h'.new ao)) ∧ I.β = a.next ∧ I.cap.isSome ∧ (∀ C', C.le C' → C'.ρ s.h.next = some I → SimV C' sv v) ∧ ∀ (C' : Cx) (a' : AH), C.le C' → a'.get a.next = some ao → SimO tab C' I so a'
theorem Made.cells {cs : List SV} {ca : List AV} (hc : SimL C cs ca) {e n : Nat} (hn : tab.siz.get e = some n) {K : SV → St → Prop} {sv : SV} {f : Nat → AV} (hv : ∀ C' : Cx, ∀ I : BI, C'.ρ s.h.next = some I → SimV C' sv (f I.β)) (hk : K sv (s.new (.cells cs e))) {r : AH → R (AV × AH)}
    (hr : ∀ h' : AH, h'.next = a.next → r h' = .ok (f h'.next, h'.new (.cells ca e n false .rw))) : Made tab C s a K r := by
  refine ⟨sv, f a.next, .cells cs e, .cells ca e n false .rw, ⟨a.next, 0, n, some (.lit 0)⟩, hk, fun h' hh => by rw [hr h' hh, hh], rfl, rfl, fun C' _ hI => hv C' _ hI, fun C' a' hle hg => ⟨rfl, ca, n, hg, hc.le hle, hn⟩⟩
theorem sop_made (hF : FS C s.ts ta) {o : Oper} (hc : cls tab o = .alloc) {K : SV → St → Prop} (h : sop tab view s o K) : Made tab C s a K fun h' => pureOp tab ta h' o := by
  obtain ⟨dst, op, type, pos, after, guard⟩ := o
  unfold sop at h
  unfold pureOp
  have same1 : ∀ {x : Operand} {K' : SV → Prop}, so (sev s.ts x) K' → ∃ sv v, ev ta x = .ok v ∧ SimV C sv v ∧ K' sv := by
    intro x K' h
    obtain ⟨sv, h1, h2⟩ := so_ok h
    obtain ⟨v, h3, h4⟩ := sev_ok hF h1
    exact ⟨sv, v, h3, h4, h2⟩
  cases op <;> simp only at h ⊢ <;> simp only [cls] at hc
  case alloc e =>
    obtain ⟨n, hn, h⟩ := so_ok h
    obtain ⟨cs, h1, h2⟩ := so_ok h
    obtain ⟨zv, zc, g1, g2, g3⟩ := zeroS_ok (C := C) h1
    exact Made.cells (f := fun b => .ptr b 0) g3 hn (fun C' I hI => .ptr hI) h2 (fun h' _ => by rw [rb g1, rb g2, rb (newRow_ok hn _ _ _)])
  case box e x =>
    obtain ⟨n, hn, h⟩ := so_ok h
    obtain ⟨sv, v, h3, h4, h2⟩ := same1 h
    obtain ⟨hk, h2⟩ := ck_ok h2
    obtain ⟨l, g1, g2⟩ := cells_ok' h4 hk
    exact Made.cells (f := fun b => .ptr b 0) g2 hn (fun C' I hI => .ptr hI) h2 (fun h' _ => by rw [evR h3, rb g1, rb (newRow_ok hn _ _ _)])
  case buildSlice t len ps =>
    obtain ⟨l, h1, h2⟩ := so_ok h
    obtain ⟨vs, g1, g2, g3⟩ := partsS_ok hF h1
    have : (fun h' => (do let l ← evParts ta ps.toList; Am.buildSlice tab h' t len l)) = fun h' => Am.buildSlice tab h' t len vs := by
      funext h'; rw [rb g1]
    rw [this]
    clear this
    clear h h1
    have h := h2
    clear h2
    unfold buildSliceS at h
    split at h
    · rename_i e hg
      split at h
      · rename_i n z hn hz
        obtain ⟨hck, h1⟩ := ck_ok h
        clear h
        simp only [Bool.and_eq_true] at hck
        obtain ⟨zv, zc, q1, q2, q3⟩ := zeroS_ok (C := C) hz
        have hzl : (Nat.beq zc.length n) = true := by rw [← q3.1]; exact hck.2
        have hb : ∀ (h' : AH) (ca : List AV), fill (rep len zc) (vs.map fun (i, v) => (i * n, n, v)) = .ok ca → Am.buildSlice tab h' t len vs = .ok (.sl h'.next 0 len (.lit len), h'.new (.cells ca e n false .rw)) := by
          intro h' ca hca
          unfold Am.buildSlice
          rw [rb (show und tab t = _ from ro hg)]
          simp only
          rw [rb (show siz tab e = _ from ro hn), rb (rc hck.1), rb q1, rb q2, rb (rc hzl), rb hca, rb (newRow_ok hn _ _ _)]
        by_cases hl0 : len = 0
        · subst hl0
          simp only [Nat.beq_refl, cond_true] at h1
          obtain ⟨hck2, h2⟩ := ck_ok h1
          clear h1
          simp only [Bool.and_eq_true, List.isEmpty_iff, Bool.not_eq_true'] at hck2
          obtain ⟨rfl, hn0⟩ := hck2
          have hn0 : n ≠ 0 := fun e => by subst e; simp at hn0
          cases vs with
          | cons => simp at g2
          | nil =>
            split at h2
            · rename_i V hV
              refine ⟨_, .sl a.next 0 0 (.lit 0), _, .cells [] e n false .rw, ⟨a.next, 0, n, some (.lit 0)⟩, h2, fun h' hh => (hb h' [] rfl).trans (by rw [hh]), rfl, rfl, fun C' _ hI => .own hI rfl, fun C' a' hle hg => ⟨hn, by simp only; omega, rfl, fun i x hx => by simp at hx, [], false, .rw, hg, by simp, by simp, .inr ⟨rfl, rfl⟩, fun i x j v hx => by simp at hx⟩⟩
            · exact h2.elim
        · rw [beq_ne hl0] at h1
          simp only [cond_false] at h1
          obtain ⟨cs, h2, hk⟩ := so_ok h1
          obtain ⟨ca, h3, h4⟩ := fillS_ok (qs := vs.map fun x => (x.1 * n, n, x.2)) (repS_ok q3 len) (by
            simp only [List.map_map]
            have := congrArg (List.map (fun i => (i * n, n))) g2
            simpa [List.map_map, Function.comp_def] using this) (by simpa [List.map_map, Function.comp_def] using g3) h2
          exact Made.cells (f := fun b => .sl b 0 len (.lit len)) h4 hn (fun C' I hI => .sl hI) hk (fun h' _ => hb h' ca h3)
      · exact h.elim
    · exact h.elim
  case call c =>
    cases hcc : c.callee with
    | builtin b => rw [hcc] at hc; cases b <;> cases hc
    | value f => rw [hcc] at hc; cases hc
    | invoke r m => rw [hcc] at hc; cases hc
  case convert src dst x => exact (clsConv3 hc).elim
  all_goals first | exact h.elim | (cases hc; done)
end
end Go.Sy

namespace Go.Sy
open Go.Am Go.RowKit
universe u v
variable [Inhabited DrP]

theorem hideS_get : ∀ (l : List (Nat × Nat)) (h : SH) (p : Nat), (hideS h l).get p = if ∃ x ∈ l, x.2 = p then none else h.get p := by
  intro l
  induction l with
  | nil => intro h p; simp [hideS]
  | cons x l ih =>
    intro h p
    obtain ⟨i, b⟩ := x
    simp only [hideS, ih, SH.get_set]
    by_cases h1 : ∃ x ∈ l, x.2 = p
    · rw [if_pos h1, if_pos]
      obtain ⟨x, hx, e⟩ := h1
      exact ⟨x, List.mem_cons_of_mem _ hx, e⟩
    · rw [if_neg h1]
      by_cases h2 : p = b
      · rw [if_pos h2, if_pos ⟨(i, b), List.mem_cons_self, h2.symm⟩]
      · rw [if_neg h2, if_neg]
        rintro ⟨x, hx, e⟩
        rcases List.mem_cons.1 hx with rfl | hx
        · exact h2 e.symm
        · exact h1 ⟨x, hx, e⟩
theorem hideS_next : ∀ (l : List (Nat × Nat)) (h : SH), (hideS h l).next = h.next := by
  intro l
  induction l with
  | nil => intro h; rfl
  | cons x l ih => intro h; obtain ⟨i, b⟩ := x; simp only [hideS, ih, SH.next_set]
theorem bareS_get (h0 : SH) (log : List Ev) : ∀ (l : List (Nat × Nat)) (h : SH) (p : Nat), (bareS h h0 log l).get p = if ∃ x ∈ l, x.2 = p then logO (h0.get p) log else h.get p := by
  intro l
  induction l with
  | nil => intro h p; simp [bareS]
  | cons x l ih =>
    intro h p
    obtain ⟨i, b⟩ := x
    simp only [bareS, ih, SH.get_set]
    by_cases h1 : ∃ x ∈ l, x.2 = p
    · rw [if_pos h1, if_pos]
      obtain ⟨x, hx, e⟩ := h1
      exact ⟨x, List.mem_cons_of_mem _ hx, e⟩
    · rw [if_neg h1]
      by_cases h2 : p = b
      · rw [if_pos h2, if_pos ⟨(i, b), List.mem_cons_self, h2.symm⟩, h2]
      · rw [if_neg h2, if_neg]
        rintro ⟨x, hx, e⟩
        rcases List.mem_cons.1 hx with rfl | hx
        · exact h2 e.symm
        · exact h1 ⟨x, hx, e⟩
theorem bareS_next (h0 : SH) (log : List Ev) : ∀ (l : List (Nat × Nat)) (h : SH), (bareS h h0 log l).next = h.next := by
  intro l
  induction l with
  | nil => intro h; rfl
  | cons x l ih => intro h; obtain ⟨i, b⟩ := x; simp only [bareS, ih, SH.next_set]
theorem onlyS_get (h : SH) (n : Nat) : ∀ (l : List Nat) (p : Nat), (SH.mk n (onlyS h l)).get p = if p ∈ l then h.get p else none := by
  intro l
  induction l with
  | nil => intro p; simp [onlyS, SH.get, look]
  | cons b l ih =>
    intro p
    have := ih p
    simp only [SH.get, onlyS, look_cons] at this ⊢
    by_cases e : p = b
    · subst e
      simp only [if_true, List.mem_cons, true_or]
      cases hg : look h.os p with
      | none => rfl
      | some o => cases o <;> rfl
    · simp only [if_neg e, List.mem_cons, e, false_or]
      exact this
open Classical in
theorem cutA {a : AH} (hwf : ∀ i o, a.get i = some o → i < a.next) (P : Nat → Prop) : ∃ a0 : AH, a0.next = a.next ∧ ∀ i, a0.get i = if P i then a.get i else none := by
  refine ⟨hideAll a (((List.range a.next).filter fun i => decide (¬ P i)).map fun i => (0, i)), hideAll_next _ _, fun i => ?_⟩
  rw [hideAll_get]
  by_cases hP : P i
  · rw [if_pos hP, if_neg]
    rintro ⟨x, hx, e⟩
    obtain ⟨j, hj, rfl⟩ := List.mem_map.1 hx
    simp only [List.mem_filter, decide_eq_true_eq] at hj
    simp only at e
    exact hj.2 (e ▸ hP)
  · rw [if_neg hP]
    split
    · rfl
    · rename_i hn
      cases hg : a.get i with
      | none => rfl
      | some o => exact absurd ⟨(0, i), List.mem_map.2 ⟨i, by simp only [List.mem_filter, List.mem_range, decide_eq_true_eq]; exact ⟨hwf i o hg, hP⟩, rfl⟩, rfl⟩ hn

section
variable {tab : Tab} {C C' : Cx} {h h0 : SH} {a a0 : AH}
theorem HS.part (H : HS tab C h a) (hn : h0.next = h.next) (hh : ∀ p o, h0.get p = some o → h.get p = some o) (hp : Part a0 a) (hn0 : a0.next = a.next) (hf : ∀ i o, C.Fz i = some o → a0.get i = some o)
    (hb : ∀ p o I, h0.get p = some o → C.ρ p = some I → I.cap.isSome → a0.get I.β = a.get I.β) : HS tab C h0 a0 := by
  refine ⟨fun p o hp => ?_, fun p q o o' I J hp hq => H.inj p q o o' I J (hh p o hp) (hh q o' hq), hf, fun p o I hp => H.dj p o I (hh p o hp), fun p I hI => by rw [hn]; exact H.lt p I hI, fun i o hi => by rw [hn0]; exact H.wf i o (hp i o hi)⟩
  obtain ⟨I, hI, ho⟩ := H.obj p o (hh p o hp)
  refine ⟨I, hI, ?_⟩
  by_cases hc : I.cap.isSome
  · exact ho.congr (hb p o I hp hI hc)
  · cases o with
    | cells cs t => exact absurd ho.1 hc
    | arr X L enc t =>
      obtain ⟨g1, g2, g3, g4, g5⟩ := ho
      refine ⟨g1, g2, g3, g4, ?_⟩
      cases hcap : I.cap with
      | none => rw [hcap] at g5; exact g5
      | some c => rw [hcap] at hc; simp at hc
end

theorem beqL_of : ∀ {l : List AV}, (∀ (i : Nat) v, l[i]? = some v → AV.beq v v = true) → AV.beqL l l = true := by
  intro l
  induction l with
  | nil => intro _; rfl
  | cons v l ih => intro h; simp only [AV.beqL, Bool.and_eq_true]; exact ⟨h 0 v rfl, ih fun i w hw => h (i + 1) w (by simpa using hw)⟩
theorem fullL_get : ∀ {l : List SV}, SV.fullL l = true → ∀ (i : Nat) (s : SV), l[i]? = some s → s.full = true := by
  intro l
  induction l with
  | nil => intro _ i s h; simp at h
  | cons v l ih =>
    intro h i s hs
    simp only [SV.fullL, Bool.and_eq_true] at h
    cases i with
    | zero => simp at hs; rw [← hs]; exact h.1
    | succ i => exact ih h.2 i s (by simpa using hs)
theorem beqL_sim {l : List SV} {m : List AV} (hl : l.length = m.length) (hf : SV.fullL l = true) (h : ∀ (i : Nat) s v, l[i]? = some s → m[i]? = some v → s.full = true → AV.beq v v = true) : AV.beqL m m = true := by
  refine beqL_of fun i v hv => ?_
  have hi := (List.getElem?_eq_some_iff.1 hv).1
  have hs : l[i]? = some l[i] := List.getElem?_eq_getElem (by omega)
  exact h i _ v hs hv (fullL_get hf i _ hs)
theorem full_beqP {Fz : Nat → Option AO} {s : SV} {v : AV} (h : SimP Fz s v) (hf : s.full = true) : AV.beq v v = true := by
  induction h with
  | any v => cases hf
  | lst0 h0 hv => rcases hv with rfl | ⟨b, off, l, n, k, rfl⟩ | ⟨a, c, rfl⟩ <;> simp [AV.beq]
  | fn h1 h2 _ _ ih3 ih4 =>
    simp only [SV.full, Bool.and_eq_true] at hf
    simp only [AV.beq, Bool.and_eq_true]
    exact ⟨⟨by simp, beqL_sim h1 hf.1 ih3⟩, beqL_sim h2 hf.2 ih4⟩
  | agg h1 _ ih => simp only [SV.full] at hf; simp only [AV.beq]; exact beqL_sim h1 hf ih
  | tup h1 _ ih => simp only [SV.full] at hf; simp only [AV.beq]; exact beqL_sim h1 hf ih
  | _ => simp [AV.beq]
theorem full_beq {C : Cx} {s : SV} {v : AV} (h : SimV C s v) (hf : s.full = true) : AV.beq v v = true := by
  induction h with
  | pure h => exact full_beqP h hf
  | fn h1 h2 _ _ ih3 ih4 =>
    simp only [SV.full, Bool.and_eq_true] at hf
    simp only [AV.beq, Bool.and_eq_true]
    exact ⟨⟨by simp, beqL_sim h1 hf.1 ih3⟩, beqL_sim h2 hf.2 ih4⟩
  | agg h1 _ ih => simp only [SV.full] at hf; simp only [AV.beq]; exact beqL_sim h1 hf ih
  | tup h1 _ ih => simp only [SV.full] at hf; simp only [AV.beq]; exact beqL_sim h1 hf ih
  | _ => simp [AV.beq]

def AlR (C : Cx) (h : SH) : List (Nat × Nat) → List (Nat × Nat) → Prop
  | [], [] => True
  | (i, p) :: l, (j, β) :: m => i = j ∧ (∃ o I, h.get p = some o ∧ C.ρ p = some I ∧ I.cap.isSome ∧ I.β = β) ∧ AlR C h l m
  | _, _ => False
theorem AlR.filter {C : Cx} {h : SH} (f : Nat → Bool) : ∀ {l m : List (Nat × Nat)}, AlR C h l m → AlR C h (l.filter fun x => f x.1) (m.filter fun x => f x.1) := by
  intro l
  induction l with
  | nil => intro m hm; cases m with
    | nil => exact hm
    | cons => exact hm.elim
  | cons x l ih =>
    intro m hm
    obtain ⟨i, p⟩ := x
    cases m with
    | nil => exact hm.elim
    | cons y m =>
      obtain ⟨j, β⟩ := y
      obtain ⟨rfl, h1, h2⟩ := hm
      simp only [List.filter_cons]
      cases f i
      · simpa using ih h2
      · simpa using ⟨rfl, h1, ih h2⟩
theorem AlR.mono {C C' : Cx} {h h' : SH} : ∀ {l m : List (Nat × Nat)}, AlR C h l m → (∀ x ∈ l, ∀ o I, h.get x.2 = some o → C.ρ x.2 = some I → I.cap.isSome → ∃ o', h'.get x.2 = some o' ∧ C'.ρ x.2 = some I) → AlR C' h' l m := by
  intro l
  induction l with
  | nil => intro m hm _; cases m with
    | nil => exact hm
    | cons => exact hm.elim
  | cons x l ih =>
    intro m hm hk
    obtain ⟨i, p⟩ := x
    cases m with
    | nil => exact hm.elim
    | cons y m =>
      obtain ⟨j, β⟩ := y
      obtain ⟨rfl, ⟨o, I, g1, g2, g3, g4⟩, h2⟩ := hm
      obtain ⟨o', k1, k2⟩ := hk (i, p) List.mem_cons_self o I g1 g2 g3
      exact ⟨rfl, ⟨o', I, k1, k2, g3, g4⟩, ih h2 (fun x hx => hk x (List.mem_cons_of_mem _ hx))⟩
theorem AlR.left {C : Cx} {h : SH} : ∀ {l m : List (Nat × Nat)}, AlR C h l m → ∀ x ∈ l, ∃ o I, h.get x.2 = some o ∧ C.ρ x.2 = some I ∧ I.cap.isSome ∧ ∃ y ∈ m, y.2 = I.β := by
  intro l
  induction l with
  | nil => intro m _ x hx; cases hx
  | cons x l ih =>
    intro m hm y hy
    obtain ⟨i, p⟩ := x
    cases m with
    | nil => exact hm.elim
    | cons z m =>
      obtain ⟨j, β⟩ := z
      obtain ⟨rfl, ⟨o, I, g1, g2, g3, g4⟩, h2⟩ := hm
      rcases List.mem_cons.1 hy with rfl | hy
      · exact ⟨o, I, g1, g2, g3, (i, β), List.mem_cons_self, g4.symm⟩
      · obtain ⟨o, I, q1, q2, q3, w, hw, q4⟩ := ih h2 y hy
        exact ⟨o, I, q1, q2, q3, w, List.mem_cons_of_mem _ hw, q4⟩
theorem AlR.right {C : Cx} {h : SH} : ∀ {l m : List (Nat × Nat)}, AlR C h l m → ∀ y ∈ m, ∃ x ∈ l, ∃ o I, h.get x.2 = some o ∧ C.ρ x.2 = some I ∧ I.cap.isSome ∧ I.β = y.2 := by
  intro l
  induction l with
  | nil => intro m hm y hy; cases m with
    | nil => cases hy
    | cons => exact hm.elim
  | cons x l ih =>
    intro m hm y hy
    obtain ⟨i, p⟩ := x
    cases m with
    | nil => exact hm.elim
    | cons z m =>
      obtain ⟨j, β⟩ := z
      obtain ⟨rfl, ⟨o, I, g1, g2, g3, g4⟩, h2⟩ := hm
      rcases List.mem_cons.1 hy with rfl | hy
      · exact ⟨(i, p), List.mem_cons_self, o, I, g1, g2, g3, g4⟩
      · obtain ⟨w, hw, q⟩ := ih h2 y hy
        exact ⟨w, List.mem_cons_of_mem _ hw, q⟩

def Stb (tab : Tab) (ops : Array Oper) (C : Cx) (h : SH) (a : AH) (x : Nat × T AV × AV) (rs : List Nat) : Prop :=
  ∃ o a0 h1, ops[x.1]? = some o ∧ (cls tab o = .pure ∨ cls tab o = .read) ∧ lkd o.op = true ∧ AV.beq x.2.2 x.2.2 = true ∧ pureOp tab x.2.1 a0 o = .ok (x.2.2, h1) ∧
    ∀ β ob, a0.get β = some ob → C.Fz β = some ob ∨ (a.get β = some ob ∧ ∃ p ∈ rs, ∃ o' I, h.get p = some o' ∧ C.ρ p = some I ∧ I.cap.isSome ∧ I.β = β)
theorem Stb.mono {tab : Tab} {ops : Array Oper} {C C' : Cx} {h h' : SH} {a a' : AH} {x : Nat × T AV × AV} {rs : List Nat} (hx : Stb tab ops C h a x rs) (hf : ∀ i o, C.Fz i = some o → C'.Fz i = some o)
    (hk : ∀ p ∈ rs, ∀ o I, h.get p = some o → C.ρ p = some I → I.cap.isSome → a'.get I.β = a.get I.β ∧ ∃ o', h'.get p = some o' ∧ C'.ρ p = some I) : Stb tab ops C' h' a' x rs := by
  obtain ⟨o, a0, h1, g1, g2, g3, gb, g4, g5⟩ := hx
  refine ⟨o, a0, h1, g1, g2, g3, gb, g4, fun β ob hb => ?_⟩
  rcases g5 β ob hb with q | ⟨q, p, hp, o', I, q1, q2, q3, rfl⟩
  · exact .inl (hf _ _ q)
  · obtain ⟨k1, o2, k2, k3⟩ := hk p hp o' I q1 q2 q3
    exact .inr ⟨by rw [k1]; exact q, p, hp, o2, I, k2, k3, q3, rfl⟩

structure SimD (tab : Tab) (ops : Array Oper) (C : Cx) (d : SD) (e : DS) : Prop where
  F : FS C d.s.ts e.ts
  H : HS tab C d.s.h e.h
  anc : d.anc = e.anc
  al : AlR C d.s.h d.allocs e.allocs
  rd : ∀ x ∈ e.reads, ∃ rs, (x.1, rs) ∈ d.reads ∧ Stb tab ops C d.s.h e.h x rs
structure Prog (C : Cx) (d : SD) (e : DS) (new : List Ev) (C' : Cx) (d' : SD) (e' : DS) : Prop where
  log : d'.s.log = d.s.log ++ new
  tr : Tr C new C'
  grow : Grow e.h e'.h
  keep : Keep C d.s.h e.h new C' d'.s.h e'.h
end Go.Sy

namespace Go.Sy
open Go.Am Go.RowKit
universe u v
variable [Inhabited DrP]

section
variable {tab : Tab} {cfg : Cfg} {ops : Array Oper} {nt : Nat}
theorem drawPut_eq (ts : T AV) (o : Oper) (v : AV) : drawPut nt ts o v = putT nt ts o.dst v := by
  unfold drawPut putT
  cases o.dst <;> rfl
theorem Prog.refl {C C' : Cx} {d d' : SD} {e e' : DS} (hl : d'.s.log = d.s.log) (hh : d'.s.h = d.s.h) (he : e'.h = e.h) (hc : C' = C) : Prog C d e [] C' d' e' := by
  subst hc
  exact ⟨by simp [hl], Tr.refl _, by rw [he]; exact Grow.refl _, by rw [hh, he]; exact Keep.same _ _ _ _⟩

open Classical in
theorem float_ok (htab : cfg.tab = tab) {C : Cx} {d : SD} {e : DS} {i : Nat} {o : Oper} {K : SD → Prop} (h : floatS cfg ops nt i o d K) (S : SimD tab ops C d e) (hi : ops[i]? = some o) :
    ∃ r d' C', drawFloat tab ops nt i o e = .ok r ∧ K d' ∧ SimD tab ops C' d' (r.getD e) ∧ Prog C d e [] C' d' (r.getD e) := by
  obtain ⟨s, anc, reads, allocs⟩ := d
  obtain ⟨hF, H, hanc, hal, hrd⟩ := S
  simp only at hF H hanc hal hrd
  simp only [floatS] at h
  rw [htab] at h
  obtain ⟨hok, h⟩ := ck_ok h
  obtain ⟨w, s1, h1, hw, hF1, eh, el⟩ := guardS_ok h hF
  clear h
  subst hanc
  unfold drawFloat
  rw [rb (rc hok)]
  simp only
  rw [rb hw]
  cases w with
  | false =>
    simp only [Bool.not_false, cond_true] at h1
    have h2 := forceT_ok (forceL_ok h1)
    obtain ⟨s2, k1, k2, k3, k4⟩ := putS_ok (v := .tup []) h2 hF1 (.pure (.tup rfl (fun i c v hc => by simp at hc)))
    refine ⟨_, _, C, rfl, k1, ⟨?_, ?_, rfl, ?_, ?_⟩, Prog.refl ?_ ?_ rfl rfl⟩
    · simp only [Option.getD_some]; rw [drawPut_eq]; exact k2
    · simp only [Option.getD_some]; rw [k3, eh]; exact H
    · simp only [Option.getD_some]; rw [k3, eh]; exact hal
    · simp only [Option.getD_some]; rw [k3, eh]; exact hrd
    · simp only; rw [k4, el]
    · simp only; rw [k3, eh]
  | true =>
    simp only [Bool.not_true, cond_false] at h1
    simp only [Bool.not_true, Bool.false_eq_true, if_false]
    have Hs : HS tab C s1.h e.h := by rw [eh]; exact H
    have look : ∀ (hc : cls tab o = .pure ∨ cls tab o = .read), (forceL (ancOf e.anc o) fun an => forceT (e.anc.set i (some an)) fun anc => match s1 with
      | ⟨ts, h, log⟩ => forceL (readsOf ts o) fun rs => ck (rs.all fun b => allocs.all fun x => !(Nat.beq x.2 b)) (sop tab cfg.view ⟨ts, ⟨h.next, onlyS h rs⟩, []⟩ o fun v s' => ck (s'.log.isEmpty && v.full) (putS nt ⟨ts, h, log⟩ o.dst v fun s' => K ⟨s', anc, (i, rs) :: reads, allocs⟩))) →
        ∃ d' v, K d' ∧ (∀ v' hx', pureOp tab e.ts { t := .e, next := 0 } o = .ok (v', hx') → v' = v ∧ hx'.next = 0) ∧ pureOp tab e.ts (hideAll e.h e.allocs) o = .ok (v, hideAll e.h e.allocs) ∧
          ∀ rd', (rd' = e.reads ∨ rd' = (i, e.ts, v) :: e.reads) → SimD tab ops C d' { e with ts := drawPut nt e.ts o v, anc := e.anc.set i (some (ancOf e.anc o)), reads := rd' } ∧ Prog C ⟨s, e.anc, reads, allocs⟩ e [] C d' { e with ts := drawPut nt e.ts o v, anc := e.anc.set i (some (ancOf e.anc o)), reads := rd' } := by
      intro hc h
      have h := forceT_ok (forceL_ok h)
      obtain ⟨ts, hh, log⟩ := s1
      simp only at h eh el hF1 Hs
      subst eh
      have h := forceL_ok h
      generalize readsOf ts o = rs at h
      obtain ⟨hdis, h⟩ := ck_ok h
      obtain ⟨a0, hn0, hg0⟩ := cutA H.wf (fun i => (∃ ob, C.Fz i = some ob) ∨ ∃ p ∈ rs, ∃ o' I, s.h.get p = some o' ∧ C.ρ p = some I ∧ I.cap.isSome ∧ I.β = i)
      have hpart : Part a0 e.h := by
        intro j ob hj
        rw [hg0] at hj
        split at hj
        · exact hj
        · cases hj
      have H0 : HS tab C ⟨s.h.next, onlyS s.h rs⟩ a0 := by
        refine Hs.part rfl (fun p o' hp => ?_) hpart hn0 (fun j ob hj => ?_) (fun p o' I hp hI hcap => ?_)
        · rw [onlyS_get] at hp
          split at hp
          · exact hp
          · cases hp
        · rw [hg0, if_pos (.inl ⟨ob, hj⟩)]; exact H.fz j ob hj
        · rw [onlyS_get] at hp
          split at hp
          · rename_i hm
            rw [hg0, if_pos (.inr ⟨p, hm, o', I, hp, hI, hcap, rfl⟩)]
          · cases hp
      obtain ⟨hlk, sv, v, hk, hp, hv⟩ := sop_look (s := ⟨ts, ⟨s.h.next, onlyS s.h rs⟩, []⟩) hF1 H0 hc (fun sv s1 hk => by have := (ck_ok hk).1; simp only [Bool.and_eq_true] at this; simpa using this.1) h
      obtain ⟨hfull, hk⟩ := ck_ok hk
      simp only [Bool.and_eq_true] at hfull
      have hbeq := full_beq hv hfull.2
      obtain ⟨s2, k1, k2, k3, k4⟩ := putS_ok hk hF1 hv
      have hhid : Part a0 (hideAll e.h e.allocs) := by
        intro β ob hβ
        rw [hideAll_get, if_neg]
        · exact hpart β ob hβ
        · rintro ⟨y, hy, rfl⟩
          obtain ⟨x, hx, ox, Ix, x1, x2, x3, x4⟩ := hal.right y hy
          rw [hg0] at hβ
          split at hβ
          · rename_i hP
            rcases hP with ⟨ob', hP⟩ | ⟨p, hpm, op, Ip, p1, p2, p3, p4⟩
            · have := H.dj x.2 ox Ix x1 x2 x3
              rw [x4, hP] at this; cases this
            · have := H.inj p x.2 op ox Ip Ix p1 x1 p2 x2 p3 x3 (by rw [p4, x4])
              have h5 := List.all_eq_true.1 (List.all_eq_true.1 hdis p hpm) x hx
              rw [this] at h5
              simp at h5
          · cases hβ
      refine ⟨_, v, k1, fun v' hx' hp' => ?_, pureOp_mono hc hlk hhid hp, fun rd' hrd' => ⟨⟨?_, ?_, rfl, ?_, ?_⟩, Prog.refl ?_ ?_ rfl rfl⟩⟩
      · have h5 := pureOp_mono hc hlk (h0 := { t := .e, next := 0 }) (h := a0) (fun j ob hj => by cases hj) hp'
        have h6 := pureOp_same ⟨by rcases hc with e | e <;> rw [e] <;> simp, by rcases hc with e | e <;> rw [e] <;> simp⟩ hp'
        rw [hp] at h5
        cases h5
        exact ⟨rfl, by rw [h6]⟩
      · simp only; rw [drawPut_eq]; exact k2
      · simp only; rw [k3]; exact H
      · simp only; rw [k3]; exact hal
      · simp only
        rw [k3]
        intro x hx
        rcases hrd' with rfl | rfl
        · obtain ⟨rs', g1, g2⟩ := hrd x hx
          exact ⟨rs', List.mem_cons_of_mem _ g1, g2⟩
        · rcases List.mem_cons.1 hx with rfl | hx
          · refine ⟨rs, List.mem_cons_self, o, a0, _, hi, hc, hlk, hbeq, hp, fun β ob hβ => ?_⟩
            have hβ' := hpart β ob hβ
            rw [hg0] at hβ
            split at hβ
            · rename_i hP
              rcases hP with ⟨ob', hP⟩ | hP
              · have := H.fz _ _ hP
                rw [hβ'] at this; cases this
                exact .inl hP
              · exact .inr ⟨hβ', hP⟩
            · cases hβ
          · obtain ⟨rs', g1, g2⟩ := hrd x hx
            exact ⟨rs', List.mem_cons_of_mem _ g1, g2⟩
      · simp only; rw [k4]; exact el
      · simp only; rw [k3]
    cases hcl : cls tab o with
    | eff =>
      rw [hcl] at h1
      simp only at h1 ⊢
      exact ⟨none, _, C, rfl, h1, ⟨hF1, Hs, rfl, by simp only; rw [eh]; exact hal, by simp only; rw [eh]; exact hrd⟩, Prog.refl el eh rfl rfl⟩
    | pure =>
      obtain ⟨d', v, g1, g2, g3, g4⟩ := look (.inl hcl) (by rw [hcl] at h1; exact h1)
      simp only
      cases hp : pureOp tab e.ts { t := .e, next := 0 } o with
      | ok r =>
        obtain ⟨v', hx'⟩ := r
        obtain ⟨rfl, hn⟩ := g2 v' hx' hp
        simp only
        rw [rb (rc (by rw [hn]; rfl))]
        obtain ⟨q1, q2⟩ := g4 e.reads (.inl rfl)
        exact ⟨_, d', C, rfl, g1, q1, q2⟩
      | no _ =>
        simp only
        rw [g3]
        obtain ⟨q1, q2⟩ := g4 _ (.inr rfl)
        exact ⟨_, d', C, rfl, g1, q1, q2⟩
    | read =>
      obtain ⟨d', v, g1, g2, g3, g4⟩ := look (.inr hcl) (by rw [hcl] at h1; exact h1)
      simp only
      rw [g3]
      obtain ⟨q1, q2⟩ := g4 _ (.inr rfl)
      exact ⟨_, d', C, rfl, g1, q1, q2⟩
    | alloc =>
      rw [hcl] at h1
      simp only at h1 ⊢
      have h2 := forceT_ok (forceL_ok h1)
      clear h1 look
      obtain ⟨ts, hh, log⟩ := s1
      simp only at h2 eh el hF1 Hs
      subst eh
      obtain ⟨sv, v, so, ao, I, m1, m2, m3, m4, m5, m6⟩ := sop_made (s := ⟨ts, s.h, []⟩) (a := e.h) hF1 hcl h2
      clear h2
      simp only [St.new] at m1
      obtain ⟨_, m1⟩ := ck_ok m1
      obtain ⟨q1, q2⟩ := H.new (ao := ao) (o := so) I m3 (fun hle => m6 _ _ hle (by rw [AH.get_new, if_pos rfl]))
      obtain ⟨s2, k1, k2, k3, k4⟩ := putS_ok (C := C.put s.h.next I) m1 (FS.le q1 hF1) (m5 _ q1 (Cx.put_same _ _ _))
      rw [rb (m2 { t := .e, next := e.h.next } rfl)]
      simp only
      rw [rb (rc (by simp)), rb (ro (show AH.get _ _ = some ao from by rw [AH.get_new, if_pos rfl]))]
      have hnew : ∀ p o', s.h.get p = some o' → (s.h.new so).get p = some o' := by
        intro p o' hp
        obtain ⟨J, hJ, _⟩ := H.obj p o' hp
        have := H.lt p J hJ
        rw [SH.get_new, if_neg (by omega)]; exact hp
      have hkeep : ∀ p o' J, s.h.get p = some o' → C.ρ p = some J → J.cap.isSome → (e.h.new ao).get J.β = e.h.get J.β := by
        intro p o' J hp hJ hc
        obtain ⟨b, hb⟩ := (H.at_ hp hJ).live hc
        have := H.wf _ _ hb
        rw [AH.get_new, if_neg (by omega)]
      refine ⟨_, _, C.put s.h.next I, rfl, k1, ⟨?_, ?_, rfl, ?_, ?_⟩, ⟨?_, q1.tr, ?_, ?_⟩⟩
      · simp only [Option.getD_some]; rw [drawPut_eq]; exact k2
      · simp only [Option.getD_some]; rw [k3]; exact q2
      · simp only [Option.getD_some]; rw [k3]
        refine ⟨rfl, ⟨so, I, by rw [SH.get_new, if_pos rfl], Cx.put_same _ _ _, m4, m3⟩, hal.mono fun x hx o' J hp hJ hc => ⟨o', hnew _ _ hp, q1.1 _ _ hJ⟩⟩
      · simp only [Option.getD_some]; rw [k3]
        intro x hx
        obtain ⟨rs, g1, g2⟩ := hrd x hx
        exact ⟨rs, g1, g2.mono q1.2 (fun p hp o' J hp hJ hc => ⟨hkeep p o' J hp hJ hc, o', hnew _ _ hp, q1.1 _ _ hJ⟩)⟩
      · simp only [List.append_nil]; rw [k4]; exact el
      · exact Grow.new _ _
      · simp only [Option.getD_some]; rw [k3]
        exact Keep.new H _ _ q1 (new_keeps H _)
end
end Go.Sy

namespace Go.Sy
open Go.Am Go.RowKit
universe u v
variable [Inhabited DrP]

section
variable {P : Program} {tab : Tab} {cfg : Cfg} {ops : Array Oper} {nt : Nat} {rec : SM → (SV → St → Prop) → Prop}
theorem Prog.trans {C C' C'' : Cx} {d d' d'' : SD} {e e' e'' : DS} {l m : List Ev} (p : Prog C d e l C' d' e') (q : Prog C' d' e' m C'' d'' e'') (H : ∀ i o, C'.Fz i = some o → e'.h.get i = some o) (H' : ∀ i o, C''.Fz i = some o → e''.h.get i = some o) : Prog C d e (l ++ m) C'' d'' e'' :=
  ⟨by rw [q.log, p.log, List.append_assoc], p.tr.trans q.tr, p.grow.trans q.grow, p.keep.trans q.keep q.tr.fz H H'⟩
theorem pass_ok (htab : cfg.tab = tab) : ∀ (l : List Oper) (k : Nat) (d : SD) (e : DS) (C : Cx) (K : SD → Prop), (∀ j o, l[j]? = some o → ops[k + j]? = some o) → passS cfg ops nt k l d K → SimD tab ops C d e →
    ∃ e' d' C', drawPass tab ops nt k l e = .ok e' ∧ K d' ∧ SimD tab ops C' d' e' ∧ Prog C d e [] C' d' e' := by
  intro l
  induction l with
  | nil =>
    intro k d e C K _ h S
    exact ⟨e, d, C, rfl, h, S, Prog.refl rfl rfl rfl rfl⟩
  | cons o l ih =>
    intro k d e C K hl h S
    have hi := hl 0 o rfl
    have hl' : ∀ j o, l[j]? = some o → ops[k + 1 + j]? = some o := fun j o' hj => by
      have := hl (j + 1) o' (by simpa using hj)
      rwa [show k + 1 + j = k + (j + 1) from by omega]
    simp only [passS, S.anc] at h
    simp only [drawPass]
    cases hr : isReady e.anc k o
    · rw [hr] at h
      exact ih (k + 1) d e C K hl' h S
    · rw [hr] at h
      simp only [cond_true] at h ⊢
      obtain ⟨r, d1, C1, g1, g2, g3, g4⟩ := float_ok htab h S (by simpa using hi)
      rw [rb g1]
      obtain ⟨e', d', C', q1, q2, q3, q4⟩ := ih (k + 1) d1 _ C1 K hl' g2 g3
      refine ⟨e', d', C', ?_, q2, q3, ?_⟩
      · cases r <;> exact q1
      · have := g4.trans q4 g3.H.fz q3.H.fz
        simpa using this
theorem EffR.mono {ts : T AV} {h0 : AH} {o : Oper} {Θ Θ' : AV → AH → Prop} (h : EffR P tab ts h0 o Θ) (hi : ∀ v h1, h0.next ≤ h1.next → Θ v h1 → Θ' v h1) : EffR P tab ts h0 o Θ' := by
  rcases h with ⟨v, h1, k1, k2, k3⟩ | ⟨c', f, g, first, captured, args, fn, body, k1, k2, k3, k4, k5, k6, k7⟩
  · exact .inl ⟨v, h1, k1, k2, hi _ _ k2 k3⟩
  · exact .inr ⟨c', f, g, first, captured, args, fn, body, k1, k2, k3, k4, k5, k6, k7.mono fun v h1 ⟨a, b⟩ => ⟨a, hi _ _ a b⟩⟩
theorem reread_of {h : AH} : ∀ {l : List (Nat × T AV × AV)}, (∀ x ∈ l, ∃ o h1, ops[x.1]? = some o ∧ pureOp tab x.2.1 h o = .ok (x.2.2, h1) ∧ AV.beq x.2.2 x.2.2 = true) → reread tab ops h l = .ok () := by
  intro l
  induction l with
  | nil => intro _; rfl
  | cons x l ih =>
    intro hx
    obtain ⟨i, ts, v⟩ := x
    obtain ⟨o, h1, g1, g2, g3⟩ := hx _ List.mem_cons_self
    simp only at g1 g2 g3
    simp only [reread]
    rw [rb (ro g1), rb g2]
    simp only
    rw [rb (rc g3)]
    exact ih fun y hy => hx y (List.mem_cons_of_mem _ hy)
theorem onLog_miss : ∀ (log : List Ev) (s : SV) (b : Nat), (∀ e ∈ log, e.id ≠ b) → (s = .own b ∨ s = .eptr b 1 0 ∨ s = .ptr b 0) → onLog log s = s := by
  intro log
  induction log with
  | nil => intro s b _ _; rfl
  | cons e l ih =>
    intro s b hb hs
    have h1 := hb e List.mem_cons_self
    have : s.on e = s := by
      rcases hs with rfl | rfl | rfl <;> cases e <;> simp only [Ev.id] at h1 <;> simp only [SV.on] <;> first | rfl | (rw [beq_ne (fun h => h1 h.symm)]; rfl)
    simp only [onLog, this]
    exact ih s b (fun e' he => hb e' (List.mem_cons_of_mem _ he)) hs
theorem Tr.same {C C' : Cx} {log : List Ev} (hT : Tr C log C') {p : Nat} {I : BI} (hI : C.ρ p = some I) (hc : I.cap.isSome) (hm : ∀ e ∈ log, e.id ≠ p) : C'.ρ p = some I := by
  obtain ⟨c, hc'⟩ := Option.isSome_iff_exists.1 hc
  have h1 := hT.val _ _ (.own hI hc')
  rw [onLog_miss log _ p hm (.inl rfl)] at h1
  have h2 := hT.val _ _ (.eptr (i := 1) (off := 0) hI hc)
  rw [onLog_miss log _ p hm (.inr (.inl rfl))] at h2
  obtain ⟨β, len, sz, cap⟩ := I
  simp only at h1 h2 hc'
  subst hc'
  generalize hv1 : AV.sl β 0 len c = v1 at h1
  generalize hv2 : AV.ptr β (1 * sz + 0) = v2 at h2
  cases h1 with
  | pure h => cases h
  | own0 hJ hc => cases hv1
  | own hJ hc =>
    rename_i J c2
    cases h2 with
    | pure h => cases h
    | eptr hJ' hc2 =>
      rw [hJ] at hJ'
      cases hJ'
      cases hv1
      simp only [AV.ptr.injEq] at hv2
      rw [hJ]
      obtain ⟨β', len', sz', cap'⟩ := J
      simp only at hc hv2 ⊢
      subst hc
      have : sz = sz' := by omega
      rw [this]
theorem logO_some (o : SO) : ∀ (log : List Ev), ∃ o', logO (some o) log = some o' ∧ ∀ {C C' : Cx} {I : BI} {a a' : AH}, Tr C log C' → a'.get I.β = a.get I.β → SimO tab C I o a → SimO tab C' I o' a' := by
  intro log
  cases o with
  | cells cs t =>
    have : ∀ (log : List Ev) (cs : List SV), logO (some (.cells cs t)) log = some (.cells (cs.map (onLog log)) t) := by
      intro log
      induction log with
      | nil => intro cs; simp [logO]; exact (List.map_id'' (fun _ => rfl) cs).symm
      | cons e l ih => intro cs; simp only [logO, Option.map_some, SO.on, ih, onL_eq, List.map_map]; rfl
    refine ⟨_, this log cs, fun hT hg ho => ?_⟩
    obtain ⟨g1, ca, sz, g2, g3, g4⟩ := ho
    refine ⟨g1, ca, sz, by rw [hg]; exact g2, ⟨by simpa using g3.1, fun i s v hs hv => ?_⟩, g4⟩
    rw [List.getElem?_map] at hs
    obtain ⟨s0, h0, rfl⟩ := Option.map_eq_some_iff.1 hs
    exact hT.val _ _ (g3.2 i s0 v h0 hv)
  | arr X L enc t =>
    have : ∀ (log : List Ev), logO (some (.arr X L enc t)) log = some (.arr X L enc t) := by
      intro log
      induction log with
      | nil => rfl
      | cons e l ih => simp only [logO, Option.map_some, SO.on, ih]
    refine ⟨_, this log, fun {C C' I a a'} hT hg ho => ?_⟩
    obtain ⟨h1, h2, h3, h4, h5⟩ := ho
    refine ⟨h1, h2, h3, h4, ?_⟩
    cases hcap : I.cap with
    | none => rw [hcap] at h5; exact h5
    | some c =>
      rw [hcap] at h5
      obtain ⟨ca, ext, bk, g1, g2, g3, g4, g5⟩ := h5
      refine ⟨ca, ext, bk, by rw [hg]; exact g1, g2, g3, g4, fun i x j v hx hv => ?_⟩
      obtain ⟨u, k1, k2⟩ := g5 i x j v hx hv
      exact ⟨u, k1, k2.mono hT.fz⟩
end
end Go.Sy

namespace Go.Sy
open Go.Am Go.RowKit
universe u v
variable [Inhabited DrP]

section
variable {P : Program} {tab : Tab} {cfg : Cfg} {ops : Array Oper} {nt : Nat} {rec : SM → (SV → St → Prop) → Prop}
theorem modded_mem {p : Nat} : ∀ {l : List Ev}, p ∈ modded l → ∃ e ∈ l, e.id = p := by
  intro l
  induction l with
  | nil => intro h; cases h
  | cons e l ih =>
    intro h
    cases e with
    | kill b =>
      rcases List.mem_cons.1 h with rfl | h
      · exact ⟨_, List.mem_cons_self, rfl⟩
      · obtain ⟨e, h1, h2⟩ := ih h; exact ⟨e, List.mem_cons_of_mem _ h1, h2⟩
    | mod b =>
      rcases List.mem_cons.1 h with rfl | h
      · exact ⟨_, List.mem_cons_self, rfl⟩
      · obtain ⟨e, h1, h2⟩ := ih h; exact ⟨e, List.mem_cons_of_mem _ h1, h2⟩
    | frz b X L enc => obtain ⟨e, h1, h2⟩ := ih h; exact ⟨e, List.mem_cons_of_mem _ h1, h2⟩
theorem miss_of {log : List Ev} {b : Nat} (h : (!(memN b (log.map Ev.id))) = true) : ∀ e ∈ log, e.id ≠ b := by
  intro e he hb
  have : memN b (log.map Ev.id) = true := memN_iff.2 (List.mem_map.2 ⟨e, he, hb⟩)
  rw [this] at h; cases h

theorem HS.bare {C C' : Cx} {h h' : SH} {a h1 : AH} {log : List Ev} {hid hidA : List (Nat × Nat)} (H : HS tab C h a) (hal : AlR C h hid hidA) (hT : Tr C log C') (H' : HS tab C' h' h1) (hG : Grow (hideAll a hidA) h1) (hm : ∀ x ∈ hid, ∀ e ∈ log, e.id ≠ x.2) :
    HS tab C' (bareS h' h log hid) (restore h1 a hidA) ∧ (∀ i b, h1.get i = some b → (restore h1 a hidA).get i = h1.get i) ∧ (∀ y ∈ hidA, h1.get y.2 = none) ∧ (∀ x ∈ hid, ∀ o I, h.get x.2 = some o → C.ρ x.2 = some I → I.cap.isSome → (restore h1 a hidA).get I.β = a.get I.β ∧ ∃ o', (bareS h' h log hid).get x.2 = some o' ∧ C'.ρ x.2 = some I) := by
  have hlt : ∀ y ∈ hidA, y.2 < a.next := by
    intro y hy
    obtain ⟨x, hx, o, I, g1, g2, g3, g4⟩ := hal.right y hy
    obtain ⟨b, hb⟩ := (H.at_ g1 g2).live g3
    rw [← g4]; exact H.wf _ _ hb
  have hnone : ∀ y ∈ hidA, h1.get y.2 = none := by
    intro y hy
    cases hz : h1.get y.2 with
    | none => rfl
    | some b =>
      rcases hG.old _ _ hz with ⟨o0, h0⟩ | hge
      · rw [hideAll_get, if_pos ⟨y, hy, rfl⟩] at h0; cases h0
      · rw [hideAll_next] at hge
        have := hlt y hy; omega
  have hlive : ∀ i b, h1.get i = some b → (restore h1 a hidA).get i = h1.get i := by
    intro i b hi
    rw [restore_get, if_neg]
    rintro ⟨y, hy, rfl⟩
    rw [hnone y hy] at hi; cases hi
  have hhid : ∀ x ∈ hid, ∀ o I, h.get x.2 = some o → C.ρ x.2 = some I → I.cap.isSome → (restore h1 a hidA).get I.β = a.get I.β ∧ h1.get I.β = none ∧ ∃ o', (bareS h' h log hid).get x.2 = some o' ∧ C'.ρ x.2 = some I ∧ SimO tab C' I o' (restore h1 a hidA) := by
    intro x hx o I ho hI hc
    obtain ⟨o1, I1, g1, g2, g3, y, hy, g4⟩ := hal.left x hx
    rw [hI] at g2; cases g2
    have e1 : (restore h1 a hidA).get I.β = a.get I.β := by rw [restore_get, if_pos ⟨y, hy, g4⟩]
    obtain ⟨o', k1, k2⟩ := logO_some o log
    refine ⟨e1, by rw [← g4]; exact hnone y hy, o', ?_, hT.same hI hc (hm x hx), k2 hT e1 (H.at_ ho hI)⟩
    rw [bareS_get, if_pos ⟨x, hx, rfl⟩, ho]; exact k1
  refine ⟨⟨?_, ?_, ?_, ?_, ?_, ?_⟩, hlive, hnone, fun x hx o I ho hI hc => ?_⟩
  · intro p o hp
    rw [bareS_get] at hp
    split at hp
    · rename_i hex
      obtain ⟨x, hx, rfl⟩ := hex
      obtain ⟨o1, I1, g1, g2, g3, _⟩ := hal.left x hx
      obtain ⟨_, _, o', k1, k2, k3⟩ := hhid x hx o1 I1 g1 g2 g3
      rw [bareS_get, if_pos ⟨x, hx, rfl⟩, hp] at k1
      cases k1
      exact ⟨I1, k2, k3⟩
    · obtain ⟨I, hI, ho⟩ := H'.obj p o hp
      refine ⟨I, hI, ?_⟩
      by_cases hc : I.cap.isSome
      · obtain ⟨b, hb⟩ := ho.live hc
        exact ho.congr (hlive _ _ hb)
      · cases o with
        | cells cs t => exact absurd ho.1 hc
        | arr X L enc t =>
          obtain ⟨g1, g2, g3, g4, g5⟩ := ho
          refine ⟨g1, g2, g3, g4, ?_⟩
          cases hcap : I.cap with
          | none => rw [hcap] at g5; exact g5
          | some c => rw [hcap] at hc; simp at hc
  · have key : ∀ p q o' I J, (∃ x ∈ hid, x.2 = p) → h'.get q = some o' → C'.ρ p = some I → C'.ρ q = some J → I.cap.isSome → J.cap.isSome → I.β ≠ J.β := by
      rintro p q o' I J ⟨x, hx, rfl⟩ hq hI hJ hc hc' e
      obtain ⟨o1, I1, g1, g2, g3, _⟩ := hal.left x hx
      obtain ⟨_, k0, _, _, k2, _⟩ := hhid x hx o1 I1 g1 g2 g3
      rw [hI] at k2; cases k2
      obtain ⟨b, hb⟩ := (H'.at_ hq hJ).live hc'
      rw [← e, k0] at hb; cases hb
    intro p q o o' I J hp hq hI hJ hc hc' e
    rw [bareS_get] at hp hq
    split at hp
    · rename_i h3
      split at hq
      · rename_i h4
        obtain ⟨x, hx, rfl⟩ := h3
        obtain ⟨z, hz, rfl⟩ := h4
        obtain ⟨o1, I1, g1, g2, g3, _⟩ := hal.left x hx
        obtain ⟨_, _, _, _, k2, _⟩ := hhid x hx o1 I1 g1 g2 g3
        obtain ⟨o2, I2, q1, q2, q3, _⟩ := hal.left z hz
        obtain ⟨_, _, _, _, k3, _⟩ := hhid z hz o2 I2 q1 q2 q3
        rw [hI] at k2; cases k2
        rw [hJ] at k3; cases k3
        exact H.inj _ _ o1 o2 I J g1 q1 g2 q2 g3 q3 e
      · exact absurd e (key p q o' I J h3 hq hI hJ hc hc')
    · split at hq
      · rename_i h4
        exact absurd e.symm (key q p o J I h4 hp hJ hI hc' hc)
      · exact H'.inj p q o o' I J hp hq hI hJ hc hc' e
  · intro i o hi
    have := H'.fz i o hi
    rw [hlive i o this]; exact this
  · intro p o I hp hI hc
    rw [bareS_get] at hp
    split at hp
    · rename_i h3
      obtain ⟨x, hx, rfl⟩ := h3
      obtain ⟨o1, I1, g1, g2, g3, _⟩ := hal.left x hx
      obtain ⟨_, k0, _, _, k2, _⟩ := hhid x hx o1 I1 g1 g2 g3
      rw [hI] at k2; cases k2
      cases hz : C'.Fz I.β with
      | none => rfl
      | some b =>
        have := H'.fz _ _ hz
        rw [k0] at this; cases this
    · exact H'.dj p o I hp hI hc
  · intro p I hI
    rw [bareS_next]; exact H'.lt p I hI
  · intro i o hi
    rw [restore_next]
    rw [restore_get] at hi
    split at hi
    · have := H.wf i o hi
      have h2 := hG.next
      rw [hideAll_next] at h2
      omega
    · exact H'.wf i o hi
  · obtain ⟨k1, _, o', k2, k3, _⟩ := hhid x hx o I ho hI hc
    exact ⟨k1, o', k2, k3⟩
end
end Go.Sy

