/- An evaluator over symbolic values, proved sound over the model's machine, and its use at this seat; no condition. Part 3. -/
import Derived.Test.YtmfohfbdddlilaaGreatProg
import Derived.KernelRfl
import Derived.Test.YtmfohfbdddlilaaGreatP2
set_option linter.unusedSimpArgs false
set_option linter.unusedVariables false
set_option linter.unusedSectionVars false
set_option linter.deprecated false
namespace Go.Sy
open Go.Am Go.RowKit
universe u v
variable [Inhabited DrP]

section
variable {P : Program} {tab : Tab} {cfg : Cfg} {ops : Array Oper} {nt : Nat} {rec : SM → (SV → St → Prop) → Prop}
theorem eff_ok (htab : cfg.tab = tab) (hrec : RecOK P tab rec) (hcon : ∀ g C, cfg.con g = some C → ConOK P tab g C) {C : Cx} {d : SD} {e : DS} {i : Nat} {o : Oper} {K : SD → Prop} (h : effS cfg rec ops nt i o d K) (S : SimD tab ops C d e) :
    EffD P tab ops nt i o e fun e' => ∃ d' C' new, K d' ∧ SimD tab ops C' d' e' ∧ Prog C d e new C' d' e' := by
  obtain ⟨s, anc, reads, allocs⟩ := d
  obtain ⟨hF, H, hanc, hal, hrd⟩ := S
  simp only at hF H hanc hal hrd
  subst hanc
  simp only [effS] at h
  obtain ⟨hok, h⟩ := ck_ok h
  obtain ⟨w, s1, h1, hw, hF1, eh, el⟩ := guardS_ok h hF
  clear h
  obtain ⟨rfl, h1⟩ := ck_ok h1
  have h := forceL_ok (forceL_ok (forceT_ok (forceL_ok h1)))
  clear h1
  obtain ⟨ts, hh, log⟩ := s1
  simp only at h eh el hF1
  subst eh
  have halh := hal.filter (fun j => !(memN j (ancOf e.anc o)))
  generalize hhd : (allocs.filter fun x => !(memN x.1 (ancOf e.anc o))) = hid at h halh
  generalize hhA : (e.allocs.filter fun x => !(memN x.1 (ancOf e.anc o))) = hidA at halh
  have hnot : ∀ p o' I, s.h.get p = some o' → C.ρ p = some I → I.cap.isSome → (¬ ∃ x ∈ hid, x.2 = p) → ¬ ∃ y ∈ hidA, y.2 = I.β := by
    rintro p o' I hp hI hc hn ⟨y, hy, hyb⟩
    obtain ⟨x, hx, ox, Ix, x1, x2, x3, x4⟩ := halh.right y hy
    exact hn ⟨x, hx, (H.inj p x.2 o' ox I Ix hp x1 hI x2 hc x3 (by rw [x4, hyb])).symm⟩
  have hfz : ∀ j ob, C.Fz j = some ob → ¬ ∃ y ∈ hidA, y.2 = j := by
    rintro j ob hj ⟨y, hy, rfl⟩
    obtain ⟨x, hx, ox, Ix, x1, x2, x3, x4⟩ := halh.right y hy
    have := H.dj x.2 ox Ix x1 x2 x3
    rw [x4, hj] at this; cases this
  have Hh : HS tab C (hideS s.h hid) (hideAll e.h hidA) := by
    refine H.part (hideS_next _ _) (fun p o' hp => ?_) (fun j ob hj => ?_) (hideAll_next _ _) (fun j ob hj => ?_) (fun p o' I hp hI hc => ?_)
    · rw [hideS_get] at hp
      split at hp
      · cases hp
      · exact hp
    · rw [hideAll_get] at hj
      split at hj
      · cases hj
      · exact hj
    · rw [hideAll_get, if_neg (hfz j ob hj)]; exact H.fz j ob hj
    · rw [hideS_get] at hp
      split at hp
      · cases hp
      · rename_i hn
        rw [hideAll_get, if_neg (hnot p o' I hp hI hc hn)]
  have heff := execS_ok (s := ⟨ts, hideS s.h hid, []⟩) (ta := e.ts) htab hrec hcon h hF1 Hh
  refine ⟨hok, hw, ?_⟩
  rw [hhA]
  refine heff.mono ?_
  rintro v h1 hle ⟨sv, s', hk, ⟨⟨C', new, e1, e2, e3, e4, e5, e6⟩, e7⟩⟩
  obtain ⟨ts', h', log'⟩ := s'
  simp only [List.nil_append] at e1 hk e4 e5
  subst e1
  obtain ⟨hck, hk⟩ := ck_ok hk
  simp only [Bool.and_eq_true, List.all_eq_true] at hck
  obtain ⟨hck1, hck2⟩ := hck
  obtain ⟨B1, B2, B3, B4⟩ := H.bare halh e2 e4 e7 (fun x hx => miss_of (hck2 x hx))
  obtain ⟨s2, k1, k2, k3, k4⟩ := putS_ok (s := ⟨ts', bareS h' s.h log' hid, log ++ log'⟩) hk e5 e3
  have hread : ∀ x ∈ e.reads.filter (fun x => !(memN x.1 (ancOf e.anc o))), ∃ rs, (x.1, rs) ∈ reads.filter (fun x => !(memN x.1 (ancOf e.anc o))) ∧ Stb tab ops C s.h e.h x rs ∧
      ∀ p ∈ rs, (∀ e ∈ log', e.id ≠ p) ∧ (h'.get p).isSome ∧ ¬ ∃ y ∈ hid, y.2 = p := by
    intro x hx
    obtain ⟨hx1, hx2⟩ := List.mem_filter.1 hx
    obtain ⟨rs, g1, g2⟩ := hrd x hx1
    have hm : (x.1, rs) ∈ reads.filter (fun x => !(memN x.1 (ancOf e.anc o))) := List.mem_filter.2 ⟨g1, hx2⟩
    refine ⟨rs, hm, g2, fun p hp => ?_⟩
    have h5 := hck1 _ hm p hp
    refine ⟨miss_of h5.1.1, h5.1.2, ?_⟩
    rintro ⟨y, hy, rfl⟩
    have h6 := h5.2 y hy
    simp at h6
  have hkeep : ∀ p o' I, s.h.get p = some o' → C.ρ p = some I → I.cap.isSome → (∀ e ∈ log', e.id ≠ p) → (h'.get p).isSome → (¬ ∃ y ∈ hid, y.2 = p) →
      (restore h1 e.h hidA).get I.β = e.h.get I.β ∧ ∃ o', (bareS h' s.h log' hid).get p = some o' ∧ C'.ρ p = some I := by
    intro p o' I hp hI hc hm hs hn
    obtain ⟨k, _⟩ := e6 p o' I (by simp only; rw [hideS_get, if_neg hn]; exact hp) hI hc (fun hmm => by
      obtain ⟨e', he', hid'⟩ := modded_mem hmm
      exact hm e' he' hid')
    rw [hideAll_get, if_neg (hnot p o' I hp hI hc hn)] at k
    obtain ⟨o2, ho2⟩ := Option.isSome_iff_exists.1 hs
    refine ⟨?_, o2, by rw [bareS_get, if_neg hn]; exact ho2, e2.same hI hc hm⟩
    rw [restore_get, if_neg (hnot p o' I hp hI hc hn)]; exact k
  have hstb : ∀ x ∈ e.reads.filter (fun x => !(memN x.1 (ancOf e.anc o))), ∃ rs, (x.1, rs) ∈ reads.filter (fun x => !(memN x.1 (ancOf e.anc o))) ∧ Stb tab ops C' (bareS h' s.h log' hid) (restore h1 e.h hidA) x rs := by
    intro x hx
    obtain ⟨rs, g1, g2, g3⟩ := hread x hx
    exact ⟨rs, g1, g2.mono e2.fz fun p hp o' I hpo hI hc => hkeep p o' I hpo hI hc (g3 p hp).1 (g3 p hp).2.1 (g3 p hp).2.2⟩
  refine ⟨reread_of fun x hx => ?_, _, C', log', k1, ⟨?_, ?_, rfl, ?_, ?_⟩, ⟨?_, e2, ?_, ?_⟩⟩
  · obtain ⟨rs, g1, g2, g3⟩ := hread x hx
    obtain ⟨ox, a0, hx1, q1, q2, q3, qb, q4, q5⟩ := g2
    refine ⟨ox, _, q1, pureOp_mono q2 q3 (h := hideAll (restore h1 e.h hidA) hidA) (fun β ob hβ => ?_) q4, qb⟩
    rcases q5 β ob hβ with hz | ⟨hz, p, hp, o', I, p1, p2, p3, rfl⟩
    · rw [hideAll_get, if_neg (hfz β ob hz), restore_get, if_neg (hfz β ob hz)]
      exact e4.fz _ _ (e2.fz _ _ hz)
    · obtain ⟨r1, r2, r3⟩ := g3 p hp
      rw [hideAll_get, if_neg (hnot p o' I p1 p2 p3 r3), (hkeep p o' I p1 p2 p3 r1 r2 r3).1]; exact hz
  · simp only; rw [drawPut_eq]; exact k2
  · simp only; rw [k3]; exact B1
  · simp only; rw [k3]
    exact halh.mono fun x hx o' I hp hI hc => (B4 x hx o' I hp hI hc).2
  · simp only; rw [k3]; exact hstb
  · simp only; rw [k4]; simp only; rw [el]
  · refine ⟨?_, fun j ob hj => ?_⟩
    · simp only; rw [restore_next]; have := e7.next; rw [hideAll_next] at this; exact this
    · simp only at hj
      rw [restore_get] at hj
      split at hj
      · exact .inl ⟨ob, hj⟩
      · rcases e7.old j ob hj with ⟨o0, h0⟩ | hge
        · rw [hideAll_get] at h0
          split at h0
          · cases h0
          · exact .inl ⟨o0, h0⟩
        · rw [hideAll_next] at hge; exact .inr hge
  · simp only; rw [k3]
    intro p o' I hp hI hc hm
    by_cases hn : ∃ y ∈ hid, y.2 = p
    · obtain ⟨y, hy, rfl⟩ := hn
      obtain ⟨q1, q2⟩ := B4 y hy o' I hp hI hc
      exact ⟨q1, .inl q2⟩
    · obtain ⟨q1, q2⟩ := e6 p o' I (by simp only; rw [hideS_get, if_neg hn]; exact hp) hI hc hm
      rw [hideAll_get, if_neg (hnot p o' I hp hI hc hn)] at q1
      refine ⟨by rw [restore_get, if_neg (hnot p o' I hp hI hc hn)]; exact q1, ?_⟩
      rcases q2 with ⟨o2, r1, r2⟩ | r
      · exact .inl ⟨o2, by simp only; rw [bareS_get, if_neg hn]; exact r1, r2⟩
      · exact .inr r
theorem draws_ok (htab : cfg.tab = tab) (hrec : RecOK P tab rec) (hcon : ∀ g C, cfg.con g = some C → ConOK P tab g C) : DrawsOK P tab cfg rec := by
  have main : ∀ (ops : Array Oper) (nt n : Nat) (d : SD) (e : DS) (C : Cx) (K : St → Prop), drawS cfg rec ops nt n d K → SimD tab ops C d e →
      TodoR P tab ops nt (fun sF => ∃ s' C' new, K s' ∧ s'.log = d.s.log ++ new ∧ Tr C new C' ∧ HS tab C' s'.h sF.h ∧ FS C' s'.ts sF.ts ∧ Grow e.h sF.h ∧ Keep C d.s.h e.h new C' s'.h sF.h) n e := by
    intro ops nt n
    induction n with
    | zero => intro d e C K h; exact h.elim
    | succ n ih =>
      intro d e C K h S
      simp only [drawS] at h
      obtain ⟨e1, d1, C1, g1, g2, g3, g4⟩ := pass_ok htab ops.toList 0 d e C _ (fun j o hj => by simpa using hj) h S
      refine ⟨e1, g1, ?_⟩
      rw [g3.anc] at g2
      split at g2
      · rename_i hc
        obtain ⟨_, hk⟩ := ck_ok g2
        exact .inl ⟨hc, d1.s, C1, [], hk, g4.log, g4.tr, g3.H, g3.F, g4.grow, g4.keep⟩
      · rename_i c o hc
        refine .inr ⟨c, o, hc, ?_⟩
        obtain ⟨q1, q2, q3⟩ := eff_ok htab hrec hcon g2 g3
        refine ⟨q1, q2, q3.mono fun v h1 _ hΘ => ⟨hΘ.1, ?_⟩⟩
        obtain ⟨d2, C2, new, k1, k2, k3⟩ := hΘ.2
        refine TodoR.mono ?_ _ _ (ih d2 _ C2 K k1 k2)
        rintro sF ⟨s', C', new', r1, r2, r3, r4, r5, r6, r7⟩
        have p := g4.trans k3 g3.H.fz k2.H.fz
        simp only [List.nil_append] at p
        exact ⟨s', C', new ++ new', r1, by rw [r2, p.log, List.append_assoc], p.tr.trans r3, r4, r5, p.grow.trans r6, p.keep.trans r7 r3.fz k2.H.fz r4.fz⟩
      · exact g2.elim
  intro ops nt n s K ta a C h hF H
  exact main ops nt n ⟨s, .e, [], []⟩ { ts := ta, h := a, anc := .e, reads := [], allocs := [] } C K h ⟨hF, H, rfl, trivial, fun x hx => by cases hx⟩
theorem wp_ok (pr : PrOK P tab) (htab : cfg.tab = tab) (hcon : ∀ g C, cfg.con g = some C → ConOK P tab g C) (n : Nat) : RecOK P tab (wp cfg n) :=
  wp_sound pr htab hcon (fun _ hrec => draws_ok htab hrec hcon) n
end
end Go.Sy

namespace Go.Sy
open Go.Am Go.RowKit
universe u v
variable [Inhabited DrP]

section
variable (cfg : Cfg)
def resM (e v : SV) (s : St) : Prop :=
  match s with
  | ⟨_, h, _⟩ => match e, v with
    | .tup es, .tup vs => argM cfg 1000 es vs ⟨[], h, []⟩ fun _ => True
    | .tup _, _ => False
    | e, v => argM cfg 1000 [e] [v] ⟨[], h, []⟩ fun _ => True
def askC (n : Nat) (f : FuncId) (C : Con) : Prop := ∀ y : C.Y, C.pre y → ask cfg n f (C.args y) (resM cfg (C.res y))
end
section
variable {P : Program} {tab : Tab} {cfg : Cfg}
theorem resM_ok (htab : cfg.tab = tab) {e v : SV} {s : St} (h : resM cfg e v s) {C : Cx} {a : AH} {av : AV} (H : HS tab C s.h a) (hv : SimV C v av) : ∃ Fz' : Nat → Option AO, (∀ i o, C.Fz i = some o → Fz' i = some o) ∧ (∀ i o, Fz' i = some o → a.get i = some o) ∧ SimP Fz' e av := by
  obtain ⟨ts, hh, log⟩ := s
  have one : ∀ (e v : SV), argM cfg 1000 [e] [v] ⟨[], hh, []⟩ (fun _ => True) → SimV C v av → ∃ Fz' : Nat → Option AO, (∀ i o, C.Fz i = some o → Fz' i = some o) ∧ (∀ i o, Fz' i = some o → a.get i = some o) ∧ SimP Fz' e av := by
    intro e v h hv
    obtain ⟨C1, new, s1, g1, g2, g3, g4, g5, _, g7⟩ := argM_ok (ta := .e) htab 1000 _ _ [av] _ C _ h (SimL.cons hv SimL.nil) (fun t s hs => by simp [look] at hs) H
    exact ⟨C1.Fz, g2.fz, g3.fz, g7.2 0 e av rfl rfl⟩
  simp only [resM] at h
  split at h
  · rename_i es vs
    obtain ⟨us, rfl, hs⟩ := tup_ok hv
    obtain ⟨C1, new, s1, g1, g2, g3, g4, g5, _, g7⟩ := argM_ok (ta := .e) htab 1000 _ _ us _ C _ h hs (fun t s hs => by simp [look] at hs) H
    exact ⟨C1.Fz, g2.fz, g3.fz, .tup g7.1 g7.2⟩
  · exact h.elim
  · exact one _ _ h hv
end
end Go.Sy

namespace Go.Sy
open Go.Am Go.RowKit
universe u v
variable [Inhabited DrP]

def isT (v : SV) (_ : St) : Prop := match v with | .bool b => b = true | _ => False
section
variable {P : Program} {tab : Tab} {cfg : Cfg}
end
end Go.Sy

namespace Go.Sy
open Go.Am Go.RowKit
universe u v
variable [Inhabited DrP]

section
variable {P : Program} {tab : Tab}
theorem AGo.shut (ok : TabOK P tab) {f : FuncId} {fn : Func} {body : Code} {avs : List AV} {Θ : AV → AH → Prop} (hfn : tab.fns.get f = some fn) (hb : fn.body = some body) (hgo : AGo P { fr := AFrame.enter fn f body avs .normal, cs := [], h := emptyH } Θ)
    (hargs : ∀ E E', concL E avs = concL E' avs) (hv : ∀ v h', Θ v h' → ∀ E E', conc E v = conc E' v) (a : AH) : AGo P { fr := AFrame.enter fn f body avs .normal, cs := [], h := a } fun v a' => a' = a ∧ ∃ h', Θ v h' := by
  intro D E K base frC csC w hR
  have hP := ok.fns f fn hfn
  obtain ⟨q1, q2, q3⟩ := hR.all E (Agree.refl _ _)
  have hR0 : Rel (fun _ => False) E (KS.old w.heap.size) { fr := AFrame.enter fn f body avs .normal, cs := [], h := emptyH } base frC csC w := by
    refine ⟨fun E' _ => ⟨empty_ok E' _ w (fun b h => h) (fun b h => h), ?_, q3⟩, fun i h => h.elim, hR.wf⟩
    rw [← q2]
    simp only
    rw [← enter_conc hP hb, ← enter_conc hP hb, hargs E' E]
  obtain ⟨v, h', hΘ, fr', w', v', E', D', s1, s2, s3, s4, s5, s6, s7, s8, s9, s10⟩ := hgo _ E _ base frC csC w hR0
  refine ⟨v, a, ⟨rfl, h', hΘ⟩, fr', w', v', E, D, s1, s2, s3, fun E'' he => ⟨?_, ?_⟩, Agree.refl _ _, fun _ h => h, hR.dom, ⟨s8.os, s8.tape, s8.output, s8.size, fun b hb' => s8.block b (q1.kb b hb'), s8.drawn⟩, Nat.le_refl _, fun i hi => .inl hi⟩
  · obtain ⟨g1, _, _⟩ := hR.all E'' he
    refine ⟨fun i o hi => ?_, g1.nk, g1.inj, g1.dom, fun b hb' => Nat.lt_of_lt_of_le (g1.kb b hb') s8.size, g1.im, g1.k0⟩
    obtain ⟨c, h1, h2⟩ := g1.obj i o hi
    refine ⟨c, ?_, h2⟩
    rw [s8.block _ (Array.getElem?_eq_some_iff.1 h1).1]; exact h1
  · rw [← (s4 E' (Agree.refl _ _)).2]; exact hv v h' hΘ _ _
theorem ConOK.shut (pr : PrOK P tab) {f : FuncId} {C : Con} (h : ∀ fn body, tab.fns.get f = some fn → fn.body = some body → ∀ y, C.pre y → ∀ avs Fz, PL Fz (C.args y) avs → (∀ E E', concL E avs = concL E' avs) ∧ ∃ Θ : AV → AH → Prop, AGo P { fr := AFrame.enter fn f body avs .normal, cs := [], h := emptyH } Θ ∧ ∀ v h', Θ v h' → (∀ E E', conc E v = conc E' v) ∧ SimP (fun _ => none) (C.res y) v) : ConOK P tab f C := by
  intro fn body hfn hb y hy Fz a avs hfz hwf hlen hav
  obtain ⟨h1, Θ, h2, h3⟩ := h fn body hfn hb y hy avs Fz ⟨hlen, hav⟩
  refine (AGo.shut pr.ok hfn hb h2 h1 (fun v h' hv => (h3 v h' hv).1) a).mono ?_
  rintro v a' ⟨rfl, h', hv⟩
  exact ⟨Fz, fun _ _ h => h, hfz, (h3 v h' hv).2.mono (fun _ _ h => by cases h), Grow.refl _, fun _ _ h => h, hwf, fun _ _ h => .inl h⟩
theorem AGo.run (pr : PrOK P tab) {n : Nat} {m : AM} {outs : List (AV × AH)} (h : Am.run tab n m = .ok outs) : AGo P m fun v h' => (v, h') ∈ outs := by
  intro D E K base frC csC w hR
  exact (run_sound pr.ok pr.ext (fun sub hsub => draw_sound pr.ok hsub pr.ext pr.mix) n).1 m outs h D E K base frC csC w hR
end
end Go.Sy

namespace Go.Sy
open Go.Am Go.RowKit
universe u v
variable [Inhabited DrP]

def absV (n : Nat) : Value → AV
  | .bool b => .bool b
  | .int k z => .int k z
  | .string s => .str s.data.toList
  | .pointer none => .nilp
  | .slice none 0 0 => .nils
  | .slice (some ⟨b, off, none⟩) (len + 1) cap => if b < n then .sl b off (len + 1) (.lit cap) else .raw (.slice (some ⟨b, off, none⟩) (len + 1) cap)
  | .map none => .nilm
  | .nilFunc => .nilf
  | v => .raw v
def absA (n : Nat) : Value → AV
  | .agg cs => .agg (cs.toList.map (absV n))
  | v => absV n v
theorem conc_absV {n : Nat} {E : Env} (hE : ∀ i, i < n → E.blk i = i) (v : Value) : conc E (absV n v) = v := by
  unfold absV
  split <;> try (simp [conc]; done)
  split
  · rename_i b off len cap hb
    simp [conc, hE _ hb, Cap.val]
  · simp [conc]
theorem concL_absV {n : Nat} {E : Env} (hE : ∀ i, i < n → E.blk i = i) (l : List Value) : concL E (l.map (absV n)) = l := by
  induction l with
  | nil => rfl
  | cons v l ih => simp [conc_absV hE, ih]
theorem conc_absA {n : Nat} {E : Env} (hE : ∀ i, i < n → E.blk i = i) (v : Value) : conc E (absA n v) = v := by
  unfold absA
  split
  · simp [conc, concL_absV hE]
  · exact conc_absV hE _
theorem concL_absA {n : Nat} {E : Env} (hE : ∀ i, i < n → E.blk i = i) (l : List Value) : concL E (l.map (absA n)) = l := by
  induction l with
  | nil => rfl
  | cons v l ih => simp [conc_absA hE, ih]

def rowO (tab : Tab) (w : World) (b : Nat) : Option AO :=
  match w.heap[b]? with
  | some (.cells arr e _) => some (.cells (arr.toList.map (absV w.heap.size)) e ((tab.siz.get e).getD 1) false .ro)
  | _ => none
def rowH (tab : Tab) (w : World) : AH := ofFn w.heap.size (rowO tab w)
theorem rowO_some {tab : Tab} {w : World} {b : Nat} {o : AO} (h : rowO tab w b = some o) : ∃ arr e fz, w.heap[b]? = some (.cells arr e fz) ∧ o = .cells (arr.toList.map (absV w.heap.size)) e ((tab.siz.get e).getD 1) false .ro := by
  unfold rowO at h
  split at h
  · rename_i arr e fz hb
    cases h
    exact ⟨arr, e, fz, hb, rfl⟩
  · cases h
theorem rowH_get {tab : Tab} {w : World} {b : Nat} : (rowH tab w).get b = rowO tab w b := by
  unfold rowH
  rw [ofFn_get]
  split
  · rfl
  · rename_i hb
    unfold rowO
    rw [Array.getElem?_eq_none (by omega)]
theorem rowH_ok (tab : Tab) (w : World) {E : Env} (hE : ∀ i, i < w.heap.size → E.blk i = i) : HOK E (rowH tab w) (KS.old w.heap.size) w := by
  have hro : ∀ i o, (rowH tab w).get i = some o → o.ro ∧ i < w.heap.size := by
    intro i o hi
    rw [rowH_get] at hi
    obtain ⟨arr, e, fz, hb, rfl⟩ := rowO_some hi
    exact ⟨trivial, (Array.getElem?_eq_some_iff.1 hb).1⟩
  refine ⟨fun i o hi => ?_, fun i o hi hr => absurd (hro i o hi).1 hr, fun i j oi oj hi hj hr => absurd (hro i oi hi).1 hr, fun i o hi => (hro i o hi).2, fun b hb => hb, fun i o hi _ => ?_, fun b hb => hb⟩
  · rw [rowH_get] at hi
    obtain ⟨arr, e, fz, hb, rfl⟩ := rowO_some hi
    have hlt := (Array.getElem?_eq_some_iff.1 hb).1
    refine ⟨_, by rw [hE i hlt]; exact hb, arr, fz, rfl, ⟨[], by simp [concL_absV hE]⟩, by simp, trivial⟩
  · show E.blk i < w.heap.size
    rw [hE i (hro i o hi).2]
    exact (hro i o hi).2

theorem absV_raw (n : Nat) (a : Addr) (c : Nat) : absV n (.slice (some a) 0 c) = .raw (.slice (some a) 0 c) := by
  unfold absV
  split <;> simp_all
theorem absV_sl {n b off len cap : Nat} (h : len ≠ 0) (hb : b < n) : absV n (.slice (some ⟨b, off, none⟩) len cap) = .sl b off len (.lit cap) := by
  cases len with
  | zero => exact absurd rfl h
  | succ len => simp [absV, hb]
theorem rows_lst {tab : Tab} {w : World} {X : Type} {L : List X} {enc : X → List SV} {b off len cap : Nat} {arr : Array Value} {e : TypeId} {fz : Nat × Nat} {sz : Nat} (hb : w.heap[b]? = some (.cells arr e fz))
    (h0 : 0 < sz) (hn : ∀ x ∈ L, (enc x).length = sz) (hl : off + L.length * sz ≤ arr.size) (hlen : len = L.length) (hcap : len ≤ cap)
    (hc : ∀ (i : Nat) x (j : Nat) v, L[i]? = some x → (enc x)[j]? = some v → ∃ u, arr[off + i * sz + j]? = some u ∧ SimP (rowH tab w).get v (absV w.heap.size u)) :
    SimP (rowH tab w).get (.lst X L enc) (absV w.heap.size (.slice (some ⟨b, off, none⟩) len cap)) := by
  have hlt := (Array.getElem?_eq_some_iff.1 hb).1
  have hg : (rowH tab w).get b = some (.cells (arr.toList.map (absV w.heap.size)) e ((tab.siz.get e).getD 1) false .ro) := by
    rw [rowH_get]
    unfold rowO
    rw [hb]
  subst hlen
  by_cases hL : L.length = 0
  · rw [hL, absV_raw]
    exact .lst0 hL (.inr (.inr ⟨_, _, rfl⟩))
  rw [absV_sl hL hlt]
  refine .lst b off (.lit cap) _ e sz false .ro (fun i j => absV w.heap.size (arr[off + i * sz + j]?.getD (.bool false))) ⟨_, false, hg, fun h => by cases h⟩ h0 (by simpa using hl) (fun i x hx => hn x (List.mem_of_getElem? hx)) hcap ?_ ?_
  · intro i x j v hx hv
    obtain ⟨u, hu, _⟩ := hc i x j v hx hv
    simp [hu]
  · intro i x j v hx hv
    obtain ⟨u, hu, hs⟩ := hc i x j v hx hv
    simp only [hu, Option.getD_some]
    exact hs

section
variable {P : Program} {tab : Tab} {cfg : Cfg}
def isB (v : SV) (_ : St) : Prop := match v with | .bool _ => True | _ => False
end
end Go.Sy

namespace Go.Sy
open Go.Am Go.RowKit
universe u v
variable [Inhabited DrP]

abbrev eqI (a b : Int) : Prop := a = b
abbrev ltN (a b : Nat) : Prop := a < b
theorem br_iff {b : Bool} {p q : Prop} : br b p q ↔ (b = true → p) ∧ (b = false → q) := by
  cases b <;> simp [br]
theorem ck_iff {b : Bool} {p : Prop} : ck b p ↔ b = true ∧ p := by
  cases b <;> simp [ck]
theorem so_iff {α : Type u} {x : Option α} {k : α → Prop} : so x k ↔ ∃ a, x = some a ∧ k a := by
  cases x <;> simp [so]
theorem nn_eq (n : Int) : nn n = decide (0 ≤ n) := by
  rw [Bool.eq_iff_iff]
  cases n with
  | ofNat a => simp only [nn, decide_eq_true_eq, true_iff]; exact Int.natCast_nonneg a
  | negSucc a => simp only [nn, decide_eq_true_eq, Bool.false_eq_true, false_iff]; omega
theorem inR64 (n : Int) : inR .i64 n = true ↔ -9223372036854775808 ≤ n ∧ n ≤ 9223372036854775807 := by
  simp only [inR, loI, hiI, leI_eq, Bool.and_eq_true, decide_eq_true_eq]
  constructor <;> rintro ⟨h1, h2⟩ <;> constructor <;> (try simp only [Int.ofNat_eq_natCast] at *) <;> omega

def askY {C : Con} (cfg : C.Y → Cfg) (n : Nat) (f : FuncId) : Prop := ∀ y : C.Y, C.pre y → ask (cfg y) n f (C.args y) (resM (cfg y) (C.res y))
theorem askY_ok {P : Program} {tab : Tab} {C : Con} {cfg : C.Y → Cfg} (pr : PrOK P tab) (htab : ∀ y, (cfg y).tab = tab) (hcon : ∀ y g C', (cfg y).con g = some C' → ConOK P tab g C') {n : Nat} {f : FuncId} (h : askY cfg n f) : ConOK P tab f C := by
  refine ConOK.of fun fn body hfn hb y hy C0 a avs hρ H hlen hav => ?_
  have h1 := h y hy
  unfold ask at h1
  rw [htab y, hfn] at h1
  simp only [hb] at h1
  refine (wp_ok pr (htab y) (hcon y) n f fn body (C.args y) ⟨0, []⟩ a C0 avs _ hfn hb h1 H ⟨hlen, fun i s v hs hv => .pure (hav i s v hs hv)⟩).mono ?_
  rintro v a' ⟨sv, s', C', k1, k2, k3, k4⟩
  exact ⟨sv, s', C', fun C1 a1 av H1 hv1 => resM_ok (htab y) k1 H1 hv1, k2, k3, k4⟩

theorem con_step {P : Program} {tab : Tab} {con : FuncId → Option Con} {k : FuncId} {c : Con} (hc : ConOK P tab k c) (h : ∀ g C, con g = some C → ConOK P tab g C) : ∀ g C, (bif Nat.beq g k then some c else con g) = some C → ConOK P tab g C := by
  intro g C hg
  cases hb : Nat.beq g k
  · rw [hb] at hg; exact h g C hg
  · rw [hb] at hg
    cases hg
    rw [Nat.eq_of_beq_eq_true hb]
    exact hc
theorem con_none {P : Program} {tab : Tab} : ∀ g C, (none : Option Con) = some C → ConOK P tab g C := fun _ _ h => by cases h
end Go.Sy

namespace Go.Sy
open Go.Am Go.RowKit
universe u v
variable [Inhabited DrP]

inductive Rd (w : World) (p : Nat → Prop) (arg : Bool) : SV → Value → Prop
  | bool (b : Bool) : Rd w p arg (.bool b) (.bool b)
  | int (k : IntKind) (n : Int) : Rd w p arg (.int k n) (.int k n)
  | str (s : List UInt8) : Rd w p arg (.str s) (.string ⟨s.toArray⟩)
  | nilp : Rd w p arg .nilp (.pointer none)
  | nils : Rd w p arg .nils (.slice none 0 0)
  | nilm : Rd w p arg .nilm (.map none)
  | nilf : Rd w p arg .nilf .nilFunc
  | any (v : Value) : Rd w p arg .any v
  | fn {f : FuncId} {xs ys : List SV} (h : arg = true) (v : Value) : Rd w p arg (.fn f xs ys) v
  | rptr {cs : List SV} {off : Nat} (h : arg = true) (v : Value) : Rd w p arg (.rptr cs off) v
  | lstn {X : Type} {L : List X} {enc : X → List SV} (h0 : L.length = 0) : Rd w p arg (.lst X L enc) (.slice none 0 0)
  | lst0 {X : Type} {L : List X} {enc : X → List SV} (h : arg = true) (h0 : L.length = 0) (a : Option Addr) (c : Nat) : Rd w p arg (.lst X L enc) (.slice a 0 c)
  | lst {X : Type} {L : List X} {enc : X → List SV} (b off cap : Nat) (arr : Array Value) (e : TypeId) (fz : Nat × Nat) (sz : Nat) (u : Nat → Nat → Value)
      (hp : p b) (hb : w.heap[b]? = some (.cells arr e fz)) (hs : 0 < sz) (hl : off + L.length * sz ≤ arr.size) (hn : ∀ (i : Nat) x, L[i]? = some x → (enc x).length = sz) (hc : L.length ≤ cap)
      (h1 : ∀ (i : Nat) x (j : Nat) v, L[i]? = some x → (enc x)[j]? = some v → arr[off + i * sz + j]? = some (u i j)) (h2 : ∀ (i : Nat) x (j : Nat) v, L[i]? = some x → (enc x)[j]? = some v → Rd w p arg v (u i j)) : Rd w p arg (.lst X L enc) (.slice (some ⟨b, off, none⟩) L.length cap)
  | agg {cs : List SV} {vs : Array Value} (h1 : cs.length = vs.size) (h2 : ∀ (i : Nat) c v, cs[i]? = some c → vs[i]? = some v → Rd w p arg c v) : Rd w p arg (.agg cs) (.agg vs)
  | tup {cs : List SV} {vs : Array Value} (h1 : cs.length = vs.size) (h2 : ∀ (i : Nat) c v, cs[i]? = some c → vs[i]? = some v → Rd w p arg c v) : Rd w p arg (.tup cs) (.tuple vs)
def RdL (w : World) (p : Nat → Prop) (arg : Bool) (l : List SV) (m : List Value) : Prop := l.length = m.length ∧ ∀ (i : Nat) s v, l[i]? = some s → m[i]? = some v → Rd w p arg s v

theorem rd_of_sim {E : Env} {a : AH} {K : KS} {w : World} (H : HOK E a K w) {Fz : Nat → Option AO} (hf : ∀ i o, Fz i = some o → a.get i = some o) {s : SV} {v : AV} (h : SimP Fz s v) : Rd w (fun _ => True) true s (conc E v) := by
  induction h with
  | bool b => exact .bool b
  | int k n => exact .int k n
  | str s => exact .str s
  | nilp => exact .nilp
  | nils => exact .nils
  | nilm => exact .nilm
  | nilf => exact .nilf
  | any v => exact .any _
  | lst0 h0 hv =>
    rcases hv with rfl | ⟨b, off, l, n, k, rfl⟩ | ⟨a, c, rfl⟩
    · exact .lstn h0
    · exact .lst0 rfl h0 _ _
    · exact .lst0 rfl h0 _ _
  | @lst X L enc b off cap cs e sz ext bk u hb hs hl hn hc h1 h2 ih =>
    obtain ⟨sz0, ext0, hb, hx0⟩ := hb
    obtain ⟨arr, fz, hw, ⟨rest, hr⟩, hsz⟩ : ∃ arr fz, w.heap[E.blk b]? = some (.cells arr e fz) ∧ (∃ rest, arr.toList = concL E cs ++ rest) ∧ (if ext0 then arr.size = E.cap b * sz0 else arr.size = cs.length) := by
      obtain ⟨c, k1, arr, fz, rfl, k2, k3, _⟩ := H.obj _ _ (hf _ _ hb)
      exact ⟨arr, fz, k1, k2, k3⟩
    have hle : cs.length ≤ arr.size := by
      have := congrArg List.length hr
      simp at this
      omega
    simp only [conc]
    refine .lst _ off _ arr e fz sz (fun i j => conc E (u i j)) trivial hw hs (by omega) hn ?_ ?_ ih
    · cases cap with
      | lit m => exact hc
      | tail k =>
        obtain ⟨g1, g2⟩ := hc
        obtain ⟨g3, g4⟩ := hx0 g1
        rw [g4, if_pos rfl, g3] at hsz
        rw [g2] at hl
        have h5 : (k + L.length) * sz ≤ E.cap b * sz := by rw [Nat.add_mul]; omega
        have := Nat.le_of_mul_le_mul_right h5 hs
        show L.length ≤ E.cap b - k
        omega
    · intro i x j v hx hv
      have h3 := h1 i x j v hx hv
      rw [← Array.getElem?_toList, hr]
      have hlt : off + i * sz + j < (concL E cs).length := by
        simp
        exact (List.getElem?_eq_some_iff.1 h3).1
      rw [List.getElem?_append_left hlt, concL_get, h3]
      rfl
  | rptr b base ca e sz ext bk u hb hl h1 _ ih => exact .rptr rfl _
  | fn h1 h2 _ _ ih3 ih4 => exact .fn rfl _
  | @agg cs vs h1 _ ih =>
    simp only [conc]
    refine .agg (by simpa using h1) (fun i c v hc hv => ?_)
    simp only [List.getElem?_toArray, concL_get] at hv
    obtain ⟨u, hu, rfl⟩ := Option.map_eq_some_iff.1 hv
    exact ih i c u hc hu
  | @tup cs vs h1 _ ih =>
    simp only [conc]
    refine .tup (by simpa using h1) (fun i c v hc hv => ?_)
    simp only [List.getElem?_toArray, concL_get] at hv
    obtain ⟨u, hu, rfl⟩ := Option.map_eq_some_iff.1 hv
    exact ih i c u hc hu

def absR (n m lo : Nat) : Value → AV
  | .bool b => .bool b
  | .int k z => .int k z
  | .string s => .str s.data.toList
  | .pointer none => .nilp
  | .slice none 0 0 => .nils
  | .slice (some ⟨b, off, none⟩) len cap => if n ≤ b ∧ b < m then .sl (lo + (b - n)) off len (.lit cap) else .raw (.slice (some ⟨b, off, none⟩) len cap)
  | .map none => .nilm
  | .nilFunc => .nilf
  | v => .raw v
theorem conc_absR {n m lo : Nat} {E : Env} (hE : ∀ b, n ≤ b → b < m → E.blk (lo + (b - n)) = b) (v : Value) : conc E (absR n m lo v) = v := by
  unfold absR
  split <;> try (simp [conc]; done)
  split
  · rename_i b off len cap hb
    simp [conc, hE _ hb.1 hb.2, Cap.val]
  · simp [conc]
theorem concL_absR {n m lo : Nat} {E : Env} (hE : ∀ b, n ≤ b → b < m → E.blk (lo + (b - n)) = b) (l : List Value) : concL E (l.map (absR n m lo)) = l := by
  induction l with
  | nil => rfl
  | cons v l ih => simp [conc_absR hE, ih]
def SV.atom : SV → Bool
  | .agg _ => false
  | .tup _ => false
  | _ => true
inductive Up (w : World) (n : Nat) : SV → Value → Prop
  | bool (b : Bool) : Up w n (.bool b) (.bool b)
  | int (k : IntKind) (z : Int) : Up w n (.int k z) (.int k z)
  | str (s : List UInt8) : Up w n (.str s) (.string ⟨s.toArray⟩)
  | nilp : Up w n .nilp (.pointer none)
  | nils : Up w n .nils (.slice none 0 0)
  | nilm : Up w n .nilm (.map none)
  | nilf : Up w n .nilf .nilFunc
  | any (v : Value) : Up w n .any v
  | lstn {X : Type} {L : List X} {enc : X → List SV} (h0 : L.length = 0) : Up w n (.lst X L enc) (.slice none 0 0)
  | lst {X : Type} {L : List X} {enc : X → List SV} (b off cap : Nat) (arr : Array Value) (e : TypeId) (fz : Nat × Nat) (sz : Nat) (u : Nat → Nat → Value)
      (hp : n ≤ b) (hb : w.heap[b]? = some (.cells arr e fz)) (hs : 0 < sz) (hl : off + L.length * sz ≤ arr.size) (hn : ∀ (i : Nat) x, L[i]? = some x → (enc x).length = sz) (hc : L.length ≤ cap)
      (ha : ∀ (i : Nat) x (j : Nat) v, L[i]? = some x → (enc x)[j]? = some v → v.atom = true)
      (h1 : ∀ (i : Nat) x (j : Nat) v, L[i]? = some x → (enc x)[j]? = some v → arr[off + i * sz + j]? = some (u i j)) (h2 : ∀ (i : Nat) x (j : Nat) v, L[i]? = some x → (enc x)[j]? = some v → Up w n v (u i j)) : Up w n (.lst X L enc) (.slice (some ⟨b, off, none⟩) L.length cap)
  | agg {cs : List SV} {vs : Array Value} (h1 : cs.length = vs.size) (h2 : ∀ (i : Nat) c v, cs[i]? = some c → vs[i]? = some v → Up w n c v) : Up w n (.agg cs) (.agg vs)
  | tup {cs : List SV} {vs : Array Value} (h1 : cs.length = vs.size) (h2 : ∀ (i : Nat) c v, cs[i]? = some c → vs[i]? = some v → Up w n c v) : Up w n (.tup cs) (.tuple vs)

def newH (a : AH) (n : Nat) (w : World) : AH := ofFn (a.next + (w.heap.size - n)) fun i => if i < a.next then a.get i else
  match w.heap[n + (i - a.next)]? with
  | some (.cells arr e _) => some (.cells (arr.toList.map (absR n w.heap.size a.next)) e 1 false .cold)
  | _ => none
theorem newH_old {a : AH} {n : Nat} {w : World} {i : Nat} (hi : i < a.next) : (newH a n w).get i = a.get i := by
  unfold newH
  rw [ofFn_get, if_pos (by omega), if_pos hi]
theorem newH_new {a : AH} {n : Nat} {w : World} {i : Nat} {o : AO} (hi : a.next ≤ i) (h : (newH a n w).get i = some o) :
    ∃ arr e fz, w.heap[n + (i - a.next)]? = some (.cells arr e fz) ∧ o = .cells (arr.toList.map (absR n w.heap.size a.next)) e 1 false .cold := by
  unfold newH at h
  rw [ofFn_get] at h
  split at h
  · rw [if_neg (by omega)] at h
    split at h
    · rename_i arr e fz hb
      cases h
      exact ⟨arr, e, fz, hb, rfl⟩
    · cases h
  · cases h
theorem newH_blk {a : AH} {n : Nat} {w : World} {b : Nat} {arr : Array Value} {e : TypeId} {fz : Nat × Nat} (hb : n ≤ b) (h : w.heap[b]? = some (.cells arr e fz)) :
    (newH a n w).get (a.next + (b - n)) = some (.cells (arr.toList.map (absR n w.heap.size a.next)) e 1 false .cold) := by
  have hlt := (Array.getElem?_eq_some_iff.1 h).1
  unfold newH
  rw [ofFn_get, if_pos (by omega), if_neg (by omega), show n + (a.next + (b - n) - a.next) = b from by omega, h]
theorem up_sim {a : AH} {n : Nat} {w : World} {Fz : Nat → Option AO} (hF : ∀ i o, a.next ≤ i → (newH a n w).get i = some o → Fz i = some o) {s : SV} {v : Value} (h : Up w n s v) :
    (s.atom = true → SimP Fz s (absR n w.heap.size a.next v)) ∧ ∃ av, SimP Fz s av ∧ ∀ E : Env, (∀ b, n ≤ b → b < w.heap.size → E.blk (a.next + (b - n)) = b) → conc E av = v := by
  have key : ∀ {s : SV} {v : Value}, SimP Fz s (absR n w.heap.size a.next v) → (s.atom = true → SimP Fz s (absR n w.heap.size a.next v)) ∧ ∃ av, SimP Fz s av ∧ ∀ E : Env, (∀ b, n ≤ b → b < w.heap.size → E.blk (a.next + (b - n)) = b) → conc E av = v :=
    fun {s v} h => ⟨fun _ => h, _, h, fun E hE => conc_absR hE v⟩
  induction h with
  | bool b => exact key (.bool b)
  | int k z => exact key (.int k z)
  | str s => exact key (by simp only [absR]; exact .str s)
  | nilp => exact key .nilp
  | nils => exact key .nils
  | nilm => exact key .nilm
  | nilf => exact key .nilf
  | any v => exact key (.any _)
  | lstn h0 => exact key (.lst0 h0 (.inl rfl))
  | @lst X L enc b off cap arr e fz sz u hp hb hs hl hn hc ha h1 h2 ih =>
    apply key
    have hlt := (Array.getElem?_eq_some_iff.1 hb).1
    simp only [absR]
    rw [if_pos ⟨hp, hlt⟩]
    refine .lst _ off (.lit cap) _ e sz false .cold (fun i j => absR n w.heap.size a.next (u i j)) ⟨1, false, hF _ _ (by omega) (newH_blk hp hb), fun h => by cases h⟩ hs (by simpa using hl) hn hc ?_ ?_
    · intro i x j v hx hv
      have h3 := h1 i x j v hx hv
      rw [List.getElem?_map, Array.getElem?_toList, h3]
      rfl
    · intro i x j v hx hv
      exact (ih i x j v hx hv).1 (ha i x j v hx hv)
  | @agg cs vs h1 h2 ih =>
    refine ⟨fun h => (by cases h), ?_⟩
    have hc : ∀ i : Nat, ∃ av, ∀ c v, cs[i]? = some c → vs[i]? = some v → SimP Fz c av ∧ ∀ E : Env, (∀ b, n ≤ b → b < w.heap.size → E.blk (a.next + (b - n)) = b) → conc E av = v := by
      intro i
      cases hi : cs[i]? with
      | none => exact ⟨.nilp, fun c v h => by cases h⟩
      | some c =>
        cases hj : vs[i]? with
        | none => exact ⟨.nilp, fun c v _ h => by cases h⟩
        | some v =>
          obtain ⟨_, av, g1, g2⟩ := ih i c v hi hj
          exact ⟨av, fun c' v' e1 e2 => by cases e1; cases e2; exact ⟨g1, g2⟩⟩
    obtain ⟨f, hf⟩ := Classical.axiomOfChoice hc
    refine ⟨.agg ((List.range vs.size).map f), .agg (by simp [h1]) fun i c v hi hv => ?_, fun E hE => ?_⟩
    · have hi2 : i < vs.size := by rw [← h1]; exact (List.getElem?_eq_some_iff.1 hi).1
      rw [List.getElem?_map, List.getElem?_range hi2] at hv
      cases hv
      exact (hf i c _ hi (Array.getElem?_eq_getElem hi2)).1
    · simp only [conc, Value.agg.injEq]
      apply Array.ext_getElem?
      intro i
      rw [List.getElem?_toArray, concL_get, List.getElem?_map]
      by_cases hi : i < vs.size
      · have hi2 : i < cs.length := by omega
        rw [List.getElem?_range hi, Array.getElem?_eq_getElem hi]
        simp only [Option.map_some]
        rw [(hf i _ _ (List.getElem?_eq_getElem hi2) (Array.getElem?_eq_getElem hi)).2 E hE]
      · rw [Array.getElem?_eq_none (by omega), List.getElem?_eq_none (by simp; omega)]
        rfl
  | @tup cs vs h1 h2 ih =>
    refine ⟨fun h => (by cases h), ?_⟩
    have hc : ∀ i : Nat, ∃ av, ∀ c v, cs[i]? = some c → vs[i]? = some v → SimP Fz c av ∧ ∀ E : Env, (∀ b, n ≤ b → b < w.heap.size → E.blk (a.next + (b - n)) = b) → conc E av = v := by
      intro i
      cases hi : cs[i]? with
      | none => exact ⟨.nilp, fun c v h => by cases h⟩
      | some c =>
        cases hj : vs[i]? with
        | none => exact ⟨.nilp, fun c v _ h => by cases h⟩
        | some v =>
          obtain ⟨_, av, g1, g2⟩ := ih i c v hi hj
          exact ⟨av, fun c' v' e1 e2 => by cases e1; cases e2; exact ⟨g1, g2⟩⟩
    obtain ⟨f, hf⟩ := Classical.axiomOfChoice hc
    refine ⟨.tup ((List.range vs.size).map f), .tup (by simp [h1]) fun i c v hi hv => ?_, fun E hE => ?_⟩
    · have hi2 : i < vs.size := by rw [← h1]; exact (List.getElem?_eq_some_iff.1 hi).1
      rw [List.getElem?_map, List.getElem?_range hi2] at hv
      cases hv
      exact (hf i c _ hi (Array.getElem?_eq_getElem hi2)).1
    · simp only [conc, Value.tuple.injEq]
      apply Array.ext_getElem?
      intro i
      rw [List.getElem?_toArray, concL_get, List.getElem?_map]
      by_cases hi : i < vs.size
      · have hi2 : i < cs.length := by omega
        rw [List.getElem?_range hi, Array.getElem?_eq_getElem hi]
        simp only [Option.map_some]
        rw [(hf i _ _ (List.getElem?_eq_getElem hi2) (Array.getElem?_eq_getElem hi)).2 E hE]
      · rw [Array.getElem?_eq_none (by omega), List.getElem?_eq_none (by simp; omega)]
        rfl

theorem enter_inj {P : Program} {f : FuncId} {k : CallKind} {l m : List Value} (hl : l.length = m.length) (h : Frame.enter P f l.toArray k = Frame.enter P f m.toArray k) : l = m := by
  have h := congrArg (fun fr => fr.tmps.toList.take l.length) h
  simp only [Frame.enter] at h
  simpa [hl] using h

section
variable {P : Program} {tab : Tab}
theorem ConOK.lift (ok : TabOK P tab) {f : FuncId} {C : Con} (h : ∀ y, C.pre y → ∀ (w : World) (args : List Value), RdL w (fun _ => True) true (C.args y) args →
      Calls P f args.toArray w (fun e w' => ∃ v, e = .returned v ∧ ((∃ i : Nat, (C.args y)[i]? = some (C.res y) ∧ args[i]? = some v) ∨ Up w' w.heap.size (C.res y) v) ∧ Below w.heap.size w w' ∧ ((default : DrP).dr → w.drawn ≤ w'.drawn))) : ConOK P tab f C := by
  classical
  intro fn body hfn hb y hy Fz a avs hfz hwf hlen hav
  intro D E K base frC csC w hR
  have hP := ok.fns f fn hfn
  obtain ⟨q1, q2, q3⟩ := hR.all E (Agree.refl _ _)
  have hconst : ∀ E', Agree D E E' → concL E' avs = concL E avs := by
    intro E' he
    obtain ⟨_, p2, _⟩ := hR.all E' he
    simp only at p2 q2
    rw [← enter_conc hP hb] at p2 q2
    exact enter_inj (by simp) (p2.trans q2.symm)
  have hargs : RdL w (fun _ => True) true (C.args y) (concL E avs) := by
    refine ⟨by simpa using hlen, fun i s v hs hv => ?_⟩
    rw [concL_get] at hv
    obtain ⟨av, hav', rfl⟩ := Option.map_eq_some_iff.1 hv
    exact rd_of_sim q1 hfz (hav i s av hs hav')
  have hbc : base = csC := q3
  subst hbc
  obtain ⟨e, w', fr', ⟨v, rfl, hv, hbel, hdr⟩, s1, s2, s3⟩ := h y hy w _ hargs base
  have hR0 : frC = Frame.enter P f (concL E avs).toArray .normal := by
    simp only at q2
    rw [← q2, enter_conc hP hb]
  let n := w.heap.size
  let h' := newH a n w'
  let Fz' : Nat → Option AO := fun i => if i < a.next then Fz i else h'.get i
  let E' : Env := ⟨fun i => if i < a.next then E.blk i else n + (i - a.next), E.cap⟩
  let D' : Nat → Prop := fun i => D i ∨ (a.next ≤ i ∧ i < a.next + (w'.heap.size - n))
  have hdom : ∀ i, D i → i < a.next := hR.dom
  have hsz : n ≤ w'.heap.size := hbel.size
  have hag : ∀ E'', Agree D' E' E'' → Agree D E E'' := by
    intro E'' he i hi
    have h1 := he i (.inl hi)
    simp only [E', if_pos (hdom i hi)] at h1
    exact h1
  have hblk : ∀ E'', Agree D' E' E'' → ∀ i, a.next ≤ i → i < a.next + (w'.heap.size - n) → E''.blk i = n + (i - a.next) := by
    intro E'' he i h1 h2
    have h3 := (he i (.inr ⟨h1, h2⟩)).1
    simp only [E', if_neg (show ¬ i < a.next by omega)] at h3
    exact h3
  have hblk2 : ∀ E'', Agree D' E' E'' → ∀ b, n ≤ b → b < w'.heap.size → E''.blk (a.next + (b - n)) = b := by
    intro E'' he b h1 h2
    rw [hblk E'' he _ (by omega) (by omega)]
    omega
  have hnext : h'.next = a.next + (w'.heap.size - n) := rfl
  have hdom' : ∀ i o, h'.get i = some o → i < h'.next := by
    intro i o hi
    have hi : (newH a n w').get i = some o := hi
    unfold newH at hi
    rw [ofFn_get] at hi
    split at hi
    · rename_i hlt; exact hlt
    · cases hi
  have hH : ∀ E'', Agree D' E' E'' → HOK E'' h' K w' := by
    intro E'' he
    obtain ⟨g1, _, _⟩ := hR.all E'' (hag E'' he)
    simp only at g1
    refine ⟨fun i o hi => ?_, fun i o hi hr => ?_, fun i j oi oj hi hj hr hij => ?_, hdom', fun b hb' => Nat.lt_of_lt_of_le (g1.kb b hb') hsz, fun i o hi hr => ?_, g1.k0⟩
    · by_cases hlt : i < a.next
      · rw [show h'.get i = a.get i from newH_old hlt] at hi
        obtain ⟨c, h1, h2⟩ := g1.obj i o hi
        exact ⟨c, by rw [hbel.block _ (Array.getElem?_eq_some_iff.1 h1).1]; exact h1, h2⟩
      · obtain ⟨arr, e, fz, hb2, rfl⟩ := newH_new (by omega) hi
        have hlt2 := hdom' i _ hi
        refine ⟨_, by rw [hblk E'' he i (by omega) (by omega)]; exact hb2, arr, fz, rfl, ⟨[], by simp [concL_absR (hblk2 E'' he)]⟩, by simp, trivial⟩
    · by_cases hlt : i < a.next
      · rw [show h'.get i = a.get i from newH_old hlt] at hi
        exact g1.nk i o hi hr
      · have hlt2 := hdom' i _ hi
        rw [hblk E'' he i (by omega) (by omega)]
        intro hk
        have := g1.kb _ hk
        omega
    · have hin : ∀ k ok', h'.get k = some ok' → (k < a.next ∧ E''.blk k < n) ∨ (a.next ≤ k ∧ E''.blk k = n + (k - a.next)) := by
        intro k ok' hk
        by_cases hlt : k < a.next
        · rw [show h'.get k = a.get k from newH_old hlt] at hk
          obtain ⟨c, h1, h2⟩ := g1.obj k ok' hk
          exact .inl ⟨hlt, (Array.getElem?_eq_some_iff.1 h1).1⟩
        · have := hdom' k _ hk
          exact .inr ⟨by omega, hblk E'' he k (by omega) (by omega)⟩
      rcases hin i oi hi with ⟨h1, h2⟩ | ⟨h1, h2⟩ <;> rcases hin j oj hj with ⟨h3, h4⟩ | ⟨h3, h4⟩
      · rw [show h'.get i = a.get i from newH_old h1] at hi
        rw [show h'.get j = a.get j from newH_old h3] at hj
        exact g1.inj i j oi oj hi hj hr hij
      all_goals omega
    · by_cases hlt : i < a.next
      · rw [show h'.get i = a.get i from newH_old hlt] at hi
        exact g1.im i o hi hr
      · obtain ⟨arr, e, fz, hb2, rfl⟩ := newH_new (by omega) hi
        exact hr.elim
  have hval : ∃ av, SimP Fz' (C.res y) av ∧ ∀ E'', Agree D' E' E'' → conc E'' av = v := by
    rcases hv with ⟨i, hi, hvi⟩ | hv
    · rw [concL_get] at hvi
      obtain ⟨av, hav', rfl⟩ := Option.map_eq_some_iff.1 hvi
      refine ⟨av, (hav i _ av hi hav').mono fun j o hj => ?_, fun E'' he => ?_⟩
      · have : j < a.next := hwf j o (hfz j o hj)
        simp only [Fz', if_pos this]
        exact hj
      · have h1 := congrArg (fun l => l[i]?) (hconst E'' (hag E'' he))
        simp only [concL_get, hav', Option.map_some, Option.some.injEq] at h1
        exact h1
    · obtain ⟨_, av, g1, g2⟩ := up_sim (a := a) (n := n) (w := w') (Fz := Fz') (fun i o hi ho => by simp only [Fz', if_neg (show ¬ i < a.next by omega)]; exact ho) hv
      exact ⟨av, g1, fun E'' he => g2 E'' (hblk2 E'' he)⟩
  obtain ⟨av, hsim, hconc⟩ := hval
  refine ⟨av, h', ⟨Fz', fun i o hi => ?_, fun i o hi => ?_, hsim, ⟨by rw [hnext]; exact Nat.le_add_right _ _, fun i o hi => ?_⟩, fun i o hi => ?_, hdom', fun i o hi => ?_⟩, fr', w', v, E', D', ?_, s2, s3, fun E'' he => ⟨hH E'' he, hconc E'' he⟩, ?_, fun i hi => .inl hi, fun i hi => ?_, ⟨hbel.os, hbel.tape, hbel.output, hbel.size, fun b hb' => hbel.block b (q1.kb b hb'), hdr⟩, ?_, fun i hi => ?_⟩
  · have : i < a.next := hwf i o (hfz i o hi)
    simp only [Fz', if_pos this]; exact hi
  · by_cases hlt : i < a.next
    · simp only [Fz', if_pos hlt] at hi
      rw [show h'.get i = a.get i from newH_old hlt]; exact hfz i o hi
    · simp only [Fz', if_neg hlt] at hi; exact hi
  · by_cases hlt : i < a.next
    · rw [show h'.get i = a.get i from newH_old hlt] at hi; exact .inl ⟨o, hi⟩
    · exact .inr (by omega)
  · rw [show h'.get i = a.get i from newH_old (hwf i o hi)]; exact hi
  · by_cases hlt : i < a.next
    · simp only [Fz', if_pos hlt] at hi; exact .inl hi
    · exact .inr (by omega)
  · rw [hR0]; exact s1
  · intro i hi
    exact ⟨if_pos (hdom i hi), rfl⟩
  · rcases hi with hi | ⟨_, hi⟩
    · have := hdom i hi; rw [hnext]; omega
    · exact hi
  · show a.next ≤ h'.next
    rw [hnext]; exact Nat.le_add_right _ _
  · rcases hi with hi | ⟨hi, _⟩
    · exact .inl hi
    · exact .inr hi

theorem ConOK.calls (ok : TabOK P tab) {f : FuncId} {C : Con} (hc : ConOK P tab f C) {fn : Func} {body : Code} (hfn : tab.fns.get f = some fn) (hb : fn.body = some body) {y : C.Y} (hy : C.pre y) {args : List Value} {w : World}
    (hs : PL (rowH tab w).get (C.args y) (args.map (absA w.heap.size))) : Calls P f args.toArray w (fun e w' => ∃ v, e = .returned v ∧ Rd w' (fun _ => True) true (C.res y) v ∧ Below w.heap.size w w' ∧ ((default : DrP).dr → w.drawn ≤ w'.drawn)) := by
  intro cs
  have hP := ok.fns f fn hfn
  have hdom : ∀ i o, (rowH tab w).get i = some o → i < (rowH tab w).next := fun i o hi => (rowH_ok tab w (E := ⟨fun i => i, fun _ => 0⟩) (fun _ _ => rfl)).dom i o hi
  let E : Env := ⟨fun i => i, fun _ => 0⟩
  let D : Nat → Prop := fun i => i < w.heap.size
  have hag : ∀ E', Agree D E E' → ∀ i, i < w.heap.size → E'.blk i = i := fun E' he i hi => (he i hi).1
  have hR : Rel D E (KS.old w.heap.size) { fr := AFrame.enter fn f body (args.map (absA w.heap.size)) .normal, cs := [], h := rowH tab w } cs (Frame.enter P f args.toArray .normal) cs w := by
    refine ⟨fun E' he => ⟨rowH_ok tab w (hag E' he), ?_, rfl⟩, fun i h => h, enter_wf _ _ _ _ _, fun f hf => by cases hf⟩
    rw [← enter_conc hP hb, concL_absA (hag E' he)]
  obtain ⟨v, h', ⟨Fz', _, f2, hsim, _⟩, fr', w', v', E', D', s1, s2, s3, s4, s5, s6, s7, s8, s9, s10⟩ := hc fn body hfn hb y hy (rowH tab w).get (rowH tab w) _ (fun _ _ h => h) hdom hs.1 hs.2 D E _ cs _ cs w hR
  obtain ⟨g1, g2⟩ := s4 E' (Agree.refl _ _)
  subst g2
  exact ⟨.returned (conc E' v), w', fr', ⟨_, rfl, rd_of_sim g1 f2 hsim, ⟨s8.os, s8.tape, s8.output, s8.size, s8.block⟩, s8.drawn⟩, s1, s2, s3⟩
end
end Go.Sy

namespace Go.Sy
open Go.Am Go.RowKit
universe u v
variable [Inhabited DrP]

def isArr (X : Type) (L : List X) (enc : X → List SV) (v : SV) (s : St) : Prop :=
  match v with
  | .own p => match s.h.get p with
    | some (.arr X' L' enc' _) => SV.lst X' L' enc' = SV.lst X L enc
    | _ => False
  | _ => False
def askN {Y : Type} (pre : Y → Prop) (args : Y → List SV) (X : Type) (L : Y → List X) (enc : X → List SV) (cfg : Y → Cfg) (n : Nat) (f : FuncId) : Prop := ∀ y, pre y → ask (cfg y) n f (args y) (isArr X (L y) enc)
def NewRow (w : World) (n : Nat) {X : Type} (L : List X) (enc : X → List SV) (v : Value) : Prop :=
  (v = .slice none 0 0 ∧ L.length = 0) ∨ ∃ b cap arr e fz sz, v = .slice (some ⟨b, 0, none⟩) L.length cap ∧ n ≤ b ∧ w.heap[b]? = some (.cells arr e fz) ∧ L.length ≤ cap ∧ 0 < sz ∧ L.length * sz ≤ arr.size ∧ (∀ (i : Nat) x, L[i]? = some x → (enc x).length = sz) ∧
    ∀ (i : Nat) x (j : Nat) s, L[i]? = some x → (enc x)[j]? = some s → ∃ u, arr[i * sz + j]? = some u ∧ Rd w (fun _ => True) true s u

section
variable {P : Program} {tab : Tab}
theorem calls_new (pr : PrOK P tab) {Y : Type} {pre : Y → Prop} {argsS : Y → List SV} {X : Type} {L : Y → List X} {enc : X → List SV} {cfg : Y → Cfg} (htab : ∀ y, (cfg y).tab = tab) (hcon : ∀ y g C, (cfg y).con g = some C → ConOK P tab g C) {n : Nat} {f : FuncId} {fn : Func}
    (hfn : tab.fns.get f = some fn) (h : askN pre argsS X L enc cfg n f) {y : Y} (hy : pre y) {args : List Value} {w : World} (hs : PL (rowH tab w).get (argsS y) (args.map (absA w.heap.size))) :
    Calls P f args.toArray w (fun e w' => ∃ v, e = .returned v ∧ NewRow w' w.heap.size (L y) enc v ∧ Below w.heap.size w w' ∧ ((default : DrP).dr → w.drawn ≤ w'.drawn)) := by
  have h := h y hy
  unfold ask at h
  rw [htab, hfn] at h
  simp only at h
  cases hb : fn.body with
  | none => rw [hb] at h; exact h.elim
  | some body =>
  rw [hb] at h
  simp only at h
  have hdom : ∀ i o, (rowH tab w).get i = some o → i < (rowH tab w).next := fun i o hi => (rowH_ok tab w (E := ⟨fun i => i, fun _ => 0⟩) (fun _ _ => rfl)).dom i o hi
  have hgo := wp_ok pr (htab y) (hcon y) n f fn body (argsS y) ⟨0, []⟩ (rowH tab w) ⟨fun _ => none, (rowH tab w).get⟩ (args.map (absA w.heap.size)) _ hfn hb h
    ⟨fun p o hp => (by simp [SH.get, look] at hp), fun p q o o' I J hp => (by simp [SH.get, look] at hp), fun i o hi => hi, fun p o I hp => (by simp [SH.get, look] at hp), fun p I hp => (by cases hp), hdom⟩ ⟨hs.1, fun i s v hs' hv => .pure (hs.2 i s v hs' hv)⟩
  intro cs
  have hP := pr.ok.fns f fn hfn
  let E : Env := ⟨fun i => i, fun _ => 0⟩
  let D : Nat → Prop := fun i => i < w.heap.size
  have hag : ∀ E', Agree D E E' → ∀ i, i < w.heap.size → E'.blk i = i := fun E' he i hi => (he i hi).1
  have hR : Rel D E (KS.old w.heap.size) { fr := AFrame.enter fn f body (args.map (absA w.heap.size)) .normal, cs := [], h := rowH tab w } cs (Frame.enter P f args.toArray .normal) cs w := by
    refine ⟨fun E' he => ⟨rowH_ok tab w (hag E' he), ?_, rfl⟩, fun i h => h, enter_wf _ _ _ _ _, fun f hf => by cases hf⟩
    rw [← enter_conc hP hb, concL_absA (hag E' he)]
  obtain ⟨v, h', ⟨sv, s', C', hq, hsv, hH, _⟩, fr', w', v', E', D', s1, s2, s3, s4, s5, s6, s7, s8, s9, s10⟩ := hgo D E _ cs _ cs w hR
  obtain ⟨g1, g2⟩ := s4 E' (Agree.refl _ _)
  subst g2
  refine ⟨.returned (conc E' v), w', fr', ⟨_, rfl, ?_, ⟨s8.os, s8.tape, s8.output, s8.size, s8.block⟩, s8.drawn⟩, s1, s2, s3⟩
  unfold isArr at hq
  split at hq
  · rename_i p
    split at hq
    · rename_i X' L' enc' e' hp
      obtain ⟨I, hI, hO⟩ := hH.obj _ _ hp
      cases hq
      simp only [SimO] at hO
      obtain ⟨o1, o2, o3, o4, o5⟩ := hO
      cases hsv with
      | pure h => cases h
      | own0 h hc =>
        rw [hI] at h; cases h
        rw [hc] at o5
        exact .inl ⟨rfl, o5⟩
      | own h hc =>
        rename_i c
        rw [hI] at h; cases h
        rw [hc] at o5
        obtain ⟨ca, ext, bk, k1, ⟨k2, _⟩, k3, k4, k5⟩ := o5
        obtain ⟨arr, fz, hw, ⟨rest, hr⟩, hx, _⟩ : ∃ arr fz, w'.heap[E'.blk I.β]? = some (.cells arr e' fz) ∧ (∃ rest, arr.toList = concL E' ca ++ rest) ∧ (if ext then arr.size = E'.cap I.β * I.sz else arr.size = ca.length) ∧ True := by
          obtain ⟨c, h1, arr, fz, rfl, h2, h3, _⟩ := g1.obj _ _ k1
          exact ⟨arr, fz, h1, h2, h3, trivial⟩
        have hro : ¬ AO.ro (.cells ca e' I.sz ext bk) := by cases bk <;> simp_all [AO.ro]
        have hnew : ¬ (E'.blk I.β < w.heap.size) := g1.nk _ _ k1 hro
        have hlen : ca.length ≤ arr.size := by
          have := congrArg List.length hr
          simp at this
          omega
        refine .inr ⟨E'.blk I.β, c.val (E'.cap I.β), arr, e', fz, I.sz, ?_, by omega, hw, ?_, o2, by rw [← k3]; exact hlen, o4, fun i x j s hx' hs' => ?_⟩
        · simp only [conc]
          rw [o3]
        · rcases k4 with ⟨rfl, he⟩ | ⟨rfl, h0⟩
          · subst he
            simp only [if_true] at hx
            simp only [Cap.val, Nat.sub_zero]
            rw [k3, hx] at hlen
            exact Nat.le_of_mul_le_mul_right hlen o2
          · omega
        · obtain ⟨u, hu, hsu⟩ := k5 i x j s hx' hs'
          refine ⟨conc E' u, ?_, rd_of_sim g1 hH.fz hsu⟩
          rw [← Array.getElem?_toList, hr, List.getElem?_append_left (by simp; exact (List.getElem?_eq_some_iff.1 hu).1), concL_get, hu]
          rfl
    · exact hq.elim
  · exact hq.elim
end
end Go.Sy

set_option maxRecDepth 100000
namespace Go.Proofs
open Go.Am
noncomputable def Tryz.aUnd : T TypeDesc := (.n (some Tryz.t0.desc) (.n (some Tryz.t1.desc) (.n (some Tryz.t3.desc) (.n (some Tryz.t7.desc) (.n (some Tryz.t15.desc) (.n (some Tryz.t31.desc) (.n (some Tryz.t63.desc) (.n (some Tryz.t127.desc) (.n (some Tryz.t255.desc) .e .e) .e) (.n (some Tryz.t191.desc) .e .e)) (.n (some Tryz.t95.desc) (.n (some Tryz.t159.desc) .e .e) (.n (some Tryz.t223.desc) .e .e))) (.n (some Tryz.t47.desc) (.n (some Tryz.t79.desc) (.n (some Tryz.t143.desc) (.n (some Tryz.t5.desc) .e .e) .e) (.n (some Tryz.t207.desc) .e .e)) (.n (some Tryz.t111.desc) (.n (some Tryz.t175.desc) .e .e) (.n (some Tryz.t239.desc) .e .e)))) (.n (some Tryz.t23.desc) (.n (some Tryz.t38.desc) (.n (some Tryz.t71.desc) (.n (some Tryz.t135.desc) (.n (some Tryz.t263.desc) .e .e) .e) (.n (some Tryz.t199.desc) .e .e)) (.n (some Tryz.t103.desc) (.n (some Tryz.t167.desc) .e .e) (.n (some Tryz.t231.desc) .e .e))) (.n (some Tryz.t55.desc) (.n (some Tryz.t87.desc) (.n (some Tryz.t151.desc) (.n (some Tryz.t279.desc) .e .e) .e) (.n (some Tryz.t215.desc) .e .e)) (.n (some Tryz.t119.desc) (.n (some Tryz.t183.desc) .e .e) (.n (some Tryz.t247.desc) .e .e))))) (.n (some Tryz.t9.desc) (.n (some Tryz.t18.desc) (.n (some Tryz.t34.desc) (.n (some Tryz.t67.desc) (.n (some Tryz.t131.desc) (.n (some Tryz.t259.desc) .e .e) .e) (.n (some Tryz.t195.desc) .e .e)) (.n (some Tryz.t99.desc) (.n (some Tryz.t163.desc) .e .e) (.n (some Tryz.t227.desc) .e .e))) (.n (some Tryz.t51.desc) (.n (some Tryz.t83.desc) (.n (some Tryz.t147.desc) (.n (some Tryz.t21.desc) .e .e) .e) (.n (some Tryz.t211.desc) .e .e)) (.n (some Tryz.t115.desc) (.n (some Tryz.t179.desc) .e .e) (.n (some Tryz.t243.desc) .e .e)))) (.n (some Tryz.t27.desc) (.n (some Tryz.t43.desc) (.n (some Tryz.t75.desc) (.n (some Tryz.t139.desc) (.n (some Tryz.t267.desc) .e .e) .e) (.n (some Tryz.t203.desc) .e .e)) (.n (some Tryz.t107.desc) (.n (some Tryz.t171.desc) .e .e) (.n (some Tryz.t217.desc) .e .e))) (.n (some Tryz.t59.desc) (.n (some Tryz.t91.desc) (.n (some Tryz.t155.desc) .e .e) (.n (some Tryz.t219.desc) .e .e)) (.n (some Tryz.t123.desc) (.n (some Tryz.t187.desc) .e .e) (.n (some Tryz.t251.desc) .e .e)))))) (.n (some Tryz.t5.desc) (.n (some Tryz.t9.desc) (.n (some Tryz.t17.desc) (.n (some Tryz.t32.desc) (.n (some Tryz.t65.desc) (.n (some Tryz.t129.desc) (.n (some Tryz.t257.desc) .e .e) .e) (.n (some Tryz.t193.desc) .e .e)) (.n (some Tryz.t97.desc) (.n (some Tryz.t161.desc) .e .e) (.n (some Tryz.t225.desc) .e .e))) (.n (some Tryz.t49.desc) (.n (some Tryz.t81.desc) (.n (some Tryz.t145.desc) (.n (some Tryz.t273.desc) .e .e) .e) (.n (some Tryz.t209.desc) .e .e)) (.n (some Tryz.t113.desc) (.n (some Tryz.t177.desc) .e .e) (.n (some Tryz.t241.desc) .e .e)))) (.n (some Tryz.t25.desc) (.n (some Tryz.t41.desc) (.n (some Tryz.t73.desc) (.n (some Tryz.t137.desc) (.n (some Tryz.t265.desc) .e .e) .e) (.n (some Tryz.t201.desc) .e .e)) (.n (some Tryz.t104.desc) (.n (some Tryz.t168.desc) .e .e) (.n (some Tryz.t233.desc) .e .e))) (.n (some Tryz.t57.desc) (.n (some Tryz.t88.desc) (.n (some Tryz.t153.desc) .e .e) (.n (some Tryz.t217.desc) .e .e)) (.n (some Tryz.t121.desc) (.n (some Tryz.t185.desc) .e .e) (.n (some Tryz.t249.desc) .e .e))))) (.n (some Tryz.t13.desc) (.n (some Tryz.t21.desc) (.n (some Tryz.t36.desc) (.n (some Tryz.t69.desc) (.n (some Tryz.t133.desc) (.n (some Tryz.t261.desc) .e .e) .e) (.n (some Tryz.t197.desc) .e .e)) (.n (some Tryz.t101.desc) (.n (some Tryz.t165.desc) .e .e) (.n (some Tryz.t229.desc) .e .e))) (.n (some Tryz.t53.desc) (.n (some Tryz.t85.desc) (.n (some Tryz.t148.desc) (.n (some Tryz.t277.desc) .e .e) .e) (.n (some Tryz.t213.desc) .e .e)) (.n (some Tryz.t117.desc) (.n (some Tryz.t181.desc) .e .e) (.n (some Tryz.t245.desc) .e .e)))) (.n (some Tryz.t3.desc) (.n (some Tryz.t44.desc) (.n (some Tryz.t77.desc) (.n (some Tryz.t141.desc) (.n (some Tryz.t268.desc) .e .e) .e) (.n (some Tryz.t204.desc) .e .e)) (.n (some Tryz.t109.desc) (.n (some Tryz.t173.desc) .e .e) (.n (some Tryz.t237.desc) .e .e))) (.n (some Tryz.t61.desc) (.n (some Tryz.t93.desc) (.n (some Tryz.t157.desc) .e .e) (.n (some Tryz.t221.desc) .e .e)) (.n (some Tryz.t125.desc) (.n (some Tryz.t189.desc) .e .e) (.n (some Tryz.t253.desc) .e .e))))))) (.n (some Tryz.t2.desc) (.n (some Tryz.t4.desc) (.n (some Tryz.t7.desc) (.n (some Tryz.t16.desc) (.n (some Tryz.t32.desc) (.n (some Tryz.t64.desc) (.n (some Tryz.t128.desc) (.n (some Tryz.t256.desc) .e .e) .e) (.n (some Tryz.t192.desc) .e .e)) (.n (some Tryz.t96.desc) (.n (some Tryz.t160.desc) .e .e) (.n (some Tryz.t224.desc) .e .e))) (.n (some Tryz.t47.desc) (.n (some Tryz.t80.desc) (.n (some Tryz.t143.desc) (.n (some Tryz.t5.desc) .e .e) .e) (.n (some Tryz.t3.desc) .e .e)) (.n (some Tryz.t112.desc) (.n (some Tryz.t176.desc) .e .e) (.n (some Tryz.t240.desc) .e .e)))) (.n (some Tryz.t23.desc) (.n (some Tryz.t40.desc) (.n (some Tryz.t71.desc) (.n (some Tryz.t136.desc) (.n (some Tryz.t264.desc) .e .e) .e) (.n (some Tryz.t200.desc) .e .e)) (.n (some Tryz.t104.desc) (.n (some Tryz.t168.desc) .e .e) (.n (some Tryz.t232.desc) .e .e))) (.n (some Tryz.t56.desc) (.n (some Tryz.t88.desc) (.n (some Tryz.t152.desc) .e .e) (.n (some Tryz.t216.desc) .e .e)) (.n (some Tryz.t120.desc) (.n (some Tryz.t184.desc) .e .e) (.n (some Tryz.t248.desc) .e .e))))) (.n (some Tryz.t12.desc) (.n (some Tryz.t20.desc) (.n (some Tryz.t36.desc) (.n (some Tryz.t68.desc) (.n (some Tryz.t132.desc) (.n (some Tryz.t260.desc) .e .e) .e) (.n (some Tryz.t196.desc) .e .e)) (.n (some Tryz.t100.desc) (.n (some Tryz.t164.desc) .e .e) (.n (some Tryz.t228.desc) .e .e))) (.n (some Tryz.t52.desc) (.n (some Tryz.t84.desc) (.n (some Tryz.t148.desc) (.n (some Tryz.t21.desc) .e .e) .e) (.n (some Tryz.t212.desc) .e .e)) (.n (some Tryz.t116.desc) (.n (some Tryz.t180.desc) .e .e) (.n (some Tryz.t244.desc) .e .e)))) (.n (some Tryz.t28.desc) (.n (some Tryz.t44.desc) (.n (some Tryz.t76.desc) (.n (some Tryz.t140.desc) (.n (some Tryz.t268.desc) .e .e) .e) (.n (some Tryz.t204.desc) .e .e)) (.n (some Tryz.t108.desc) (.n (some Tryz.t172.desc) .e .e) (.n (some Tryz.t236.desc) .e .e))) (.n (some Tryz.t60.desc) (.n (some Tryz.t92.desc) (.n (some Tryz.t156.desc) .e .e) (.n (some Tryz.t220.desc) .e .e)) (.n (some Tryz.t123.desc) (.n (some Tryz.t188.desc) .e .e) (.n (some Tryz.t252.desc) .e .e)))))) (.n (some Tryz.t5.desc) (.n (some Tryz.t9.desc) (.n (some Tryz.t18.desc) (.n (some Tryz.t34.desc) (.n (some Tryz.t66.desc) (.n (some Tryz.t130.desc) (.n (some Tryz.t258.desc) .e .e) .e) (.n (some Tryz.t194.desc) .e .e)) (.n (some Tryz.t98.desc) (.n (some Tryz.t162.desc) .e .e) (.n (some Tryz.t226.desc) .e .e))) (.n (some Tryz.t50.desc) (.n (some Tryz.t82.desc) (.n (some Tryz.t146.desc) (.n (some Tryz.t274.desc) .e .e) .e) (.n (some Tryz.t210.desc) .e .e)) (.n (some Tryz.t114.desc) (.n (some Tryz.t178.desc) .e .e) (.n (some Tryz.t242.desc) .e .e)))) (.n (some Tryz.t26.desc) (.n (some Tryz.t41.desc) (.n (some Tryz.t74.desc) (.n (some Tryz.t137.desc) (.n (some Tryz.t265.desc) .e .e) .e) (.n (some Tryz.t202.desc) .e .e)) (.n (some Tryz.t106.desc) (.n (some Tryz.t170.desc) .e .e) (.n (some Tryz.t234.desc) .e .e))) (.n (some Tryz.t58.desc) (.n (some Tryz.t90.desc) (.n (some Tryz.t154.desc) .e .e) (.n (some Tryz.t218.desc) .e .e)) (.n (some Tryz.t122.desc) (.n (some Tryz.t186.desc) .e .e) (.n (some Tryz.t250.desc) .e .e))))) (.n (some Tryz.t13.desc) (.n (some Tryz.t22.desc) (.n (some Tryz.t38.desc) (.n (some Tryz.t70.desc) (.n (some Tryz.t134.desc) (.n (some Tryz.t262.desc) .e .e) .e) (.n (some Tryz.t198.desc) .e .e)) (.n (some Tryz.t102.desc) (.n (some Tryz.t166.desc) .e .e) (.n (some Tryz.t230.desc) .e .e))) (.n (some Tryz.t54.desc) (.n (some Tryz.t86.desc) (.n (some Tryz.t150.desc) (.n (some Tryz.t277.desc) .e .e) .e) (.n (some Tryz.t214.desc) .e .e)) (.n (some Tryz.t118.desc) (.n (some Tryz.t182.desc) .e .e) (.n (some Tryz.t246.desc) .e .e)))) (.n (some Tryz.t30.desc) (.n (some Tryz.t46.desc) (.n (some Tryz.t78.desc) (.n (some Tryz.t141.desc) (.n (some Tryz.t270.desc) .e .e) .e) (.n (some Tryz.t206.desc) .e .e)) (.n (some Tryz.t110.desc) (.n (some Tryz.t174.desc) .e .e) (.n (some Tryz.t238.desc) .e .e))) (.n (some Tryz.t62.desc) (.n (some Tryz.t94.desc) (.n (some Tryz.t158.desc) .e .e) (.n (some Tryz.t222.desc) .e .e)) (.n (some Tryz.t34.desc) (.n (some Tryz.t190.desc) .e .e) (.n (some Tryz.t254.desc) .e .e))))))))
noncomputable def Tryz.aSiz : T Nat := (.n (some 1) (.n (some 1) (.n (some 1) (.n (some 4) (.n (some 1) (.n (some 1) (.n (some 1) (.n (some 1) (.n (some 1) .e .e) .e) (.n (some 1) .e .e)) (.n (some 1) (.n (some 1) .e .e) (.n (some 1) .e .e))) (.n (some 11) (.n (some 1) (.n (some 6) (.n (some 1) .e .e) .e) (.n (some 1) .e .e)) (.n (some 1) (.n (some 1) .e .e) (.n (some 1) .e .e)))) (.n (some 3) (.n (some 8) (.n (some 4) (.n (some 1) (.n (some 1) .e .e) .e) (.n (some 1) .e .e)) (.n (some 1) (.n (some 1) .e .e) (.n (some 1) .e .e))) (.n (some 1) (.n (some 1) (.n (some 1) (.n (some 1) .e .e) .e) (.n (some 1) .e .e)) (.n (some 1) (.n (some 1) .e .e) (.n (some 1) .e .e))))) (.n (some 1) (.n (some 1) (.n (some 3) (.n (some 1) (.n (some 1) (.n (some 1) .e .e) .e) (.n (some 1) .e .e)) (.n (some 1) (.n (some 1) .e .e) (.n (some 1) .e .e))) (.n (some 1) (.n (some 1) (.n (some 1) (.n (some 1) .e .e) .e) (.n (some 1) .e .e)) (.n (some 1) (.n (some 1) .e .e) (.n (some 1) .e .e)))) (.n (some 1) (.n (some 1) (.n (some 1) (.n (some 1) (.n (some 0) .e .e) .e) (.n (some 1) .e .e)) (.n (some 1) (.n (some 1) .e .e) (.n (some 1) .e .e))) (.n (some 1) (.n (some 1) (.n (some 1) .e .e) (.n (some 1) .e .e)) (.n (some 13) (.n (some 1) .e .e) (.n (some 1) .e .e)))))) (.n (some 1) (.n (some 1) (.n (some 1) (.n (some 2) (.n (some 1) (.n (some 1) (.n (some 1) .e .e) .e) (.n (some 1) .e .e)) (.n (some 1) (.n (some 1) .e .e) (.n (some 1) .e .e))) (.n (some 1) (.n (some 1) (.n (some 1) (.n (some 1) .e .e) .e) (.n (some 1) .e .e)) (.n (some 1) (.n (some 1) .e .e) (.n (some 1) .e .e)))) (.n (some 1) (.n (some 19) (.n (some 1) (.n (some 1) (.n (some 4) .e .e) .e) (.n (some 1) .e .e)) (.n (some 4) (.n (some 3) .e .e) (.n (some 1) .e .e))) (.n (some 1) (.n (some 5) (.n (some 1) .e .e) (.n (some 1) .e .e)) (.n (some 1) (.n (some 1) .e .e) (.n (some 1) .e .e))))) (.n (some 2) (.n (some 1) (.n (some 3) (.n (some 1) (.n (some 1) (.n (some 1) .e .e) .e) (.n (some 1) .e .e)) (.n (some 1) (.n (some 1) .e .e) (.n (some 1) .e .e))) (.n (some 1) (.n (some 1) (.n (some 1) (.n (some 11) .e .e) .e) (.n (some 1) .e .e)) (.n (some 1) (.n (some 1) .e .e) (.n (some 1) .e .e)))) (.n (some 1) (.n (some 3) (.n (some 1) (.n (some 4) (.n (some 0) .e .e) .e) (.n (some 1) .e .e)) (.n (some 1) (.n (some 1) .e .e) (.n (some 1) .e .e))) (.n (some 1) (.n (some 1) (.n (some 1) .e .e) (.n (some 1) .e .e)) (.n (some 1) (.n (some 1) .e .e) (.n (some 1) .e .e))))))) (.n (some 1) (.n (some 1) (.n (some 4) (.n (some 1) (.n (some 2) (.n (some 1) (.n (some 1) (.n (some 1) .e .e) .e) (.n (some 1) .e .e)) (.n (some 1) (.n (some 1) .e .e) (.n (some 1) .e .e))) (.n (some 11) (.n (some 1) (.n (some 6) (.n (some 1) .e .e) .e) (.n (some 1) .e .e)) (.n (some 1) (.n (some 1) .e .e) (.n (some 1) .e .e)))) (.n (some 3) (.n (some 1) (.n (some 4) (.n (some 1) (.n (some 1) .e .e) .e) (.n (some 1) .e .e)) (.n (some 4) (.n (some 3) .e .e) (.n (some 1) .e .e))) (.n (some 1) (.n (some 5) (.n (some 1) .e .e) (.n (some 1) .e .e)) (.n (some 1) (.n (some 1) .e .e) (.n (some 1) .e .e))))) (.n (some 1) (.n (some 1) (.n (some 3) (.n (some 1) (.n (some 1) (.n (some 1) .e .e) .e) (.n (some 1) .e .e)) (.n (some 1) (.n (some 1) .e .e) (.n (some 1) .e .e))) (.n (some 1) (.n (some 1) (.n (some 1) (.n (some 1) .e .e) .e) (.n (some 1) .e .e)) (.n (some 1) (.n (some 1) .e .e) (.n (some 1) .e .e)))) (.n (some 1) (.n (some 3) (.n (some 1) (.n (some 1) (.n (some 0) .e .e) .e) (.n (some 1) .e .e)) (.n (some 1) (.n (some 1) .e .e) (.n (some 1) .e .e))) (.n (some 1) (.n (some 1) (.n (some 1) .e .e) (.n (some 1) .e .e)) (.n (some 13) (.n (some 1) .e .e) (.n (some 1) .e .e)))))) (.n (some 1) (.n (some 1) (.n (some 1) (.n (some 3) (.n (some 1) (.n (some 1) (.n (some 1) .e .e) .e) (.n (some 1) .e .e)) (.n (some 1) (.n (some 1) .e .e) (.n (some 1) .e .e))) (.n (some 1) (.n (some 1) (.n (some 1) (.n (some 1) .e .e) .e) (.n (some 1) .e .e)) (.n (some 1) (.n (some 1) .e .e) (.n (some 1) .e .e)))) (.n (some 1) (.n (some 19) (.n (some 1) (.n (some 1) (.n (some 4) .e .e) .e) (.n (some 1) .e .e)) (.n (some 1) (.n (some 1) .e .e) (.n (some 1) .e .e))) (.n (some 1) (.n (some 1) (.n (some 1) .e .e) (.n (some 1) .e .e)) (.n (some 1) (.n (some 1) .e .e) (.n (some 1) .e .e))))) (.n (some 2) (.n (some 1) (.n (some 8) (.n (some 1) (.n (some 1) (.n (some 1) .e .e) .e) (.n (some 1) .e .e)) (.n (some 1) (.n (some 1) .e .e) (.n (some 1) .e .e))) (.n (some 1) (.n (some 1) (.n (some 1) (.n (some 11) .e .e) .e) (.n (some 1) .e .e)) (.n (some 1) (.n (some 1) .e .e) (.n (some 1) .e .e)))) (.n (some 1) (.n (some 1) (.n (some 1) (.n (some 4) (.n (some 1) .e .e) .e) (.n (some 1) .e .e)) (.n (some 1) (.n (some 1) .e .e) (.n (some 1) .e .e))) (.n (some 1) (.n (some 1) (.n (some 1) .e .e) (.n (some 1) .e .e)) (.n (some 3) (.n (some 1) .e .e) (.n (some 1) .e .e))))))))
noncomputable def Tryz.aByt : T Nat := (.n (some 0) (.n (some 8) (.n (some 8) (.n (some 24) (.n (some 8) (.n (some 8) (.n (some 8) (.n (some 8) (.n (some 8) .e .e) .e) (.n (some 8) .e .e)) (.n (some 8) (.n (some 8) .e .e) (.n (some 8) .e .e))) (.n (some 96) (.n (some 8) (.n (some 64) (.n (some 1) .e .e) .e) (.n (some 8) .e .e)) (.n (some 8) (.n (some 8) .e .e) (.n (some 8) .e .e)))) (.n (some 48) (.n (some 48) (.n (some 48) (.n (some 8) (.n (some 8) .e .e) .e) (.n (some 24) .e .e)) (.n (some 8) (.n (some 8) .e .e) (.n (some 8) .e .e))) (.n (some 8) (.n (some 8) (.n (some 8) (.n (some 8) .e .e) .e) (.n (some 4) .e .e)) (.n (some 8) (.n (some 8) .e .e) (.n (some 8) .e .e))))) (.n (some 16) (.n (some 8) (.n (some 24) (.n (some 8) (.n (some 8) (.n (some 8) .e .e) .e) (.n (some 8) .e .e)) (.n (some 8) (.n (some 8) .e .e) (.n (some 8) .e .e))) (.n (some 8) (.n (some 8) (.n (some 8) (.n (some 4) .e .e) .e) (.n (some 8) .e .e)) (.n (some 8) (.n (some 8) .e .e) (.n (some 8) .e .e)))) (.n (some 8) (.n (some 24) (.n (some 8) (.n (some 8) (.n (some 0) .e .e) .e) (.n (some 8) .e .e)) (.n (some 8) (.n (some 8) .e .e) (.n (some 8) .e .e))) (.n (some 8) (.n (some 8) (.n (some 8) .e .e) (.n (some 8) .e .e)) (.n (some 128) (.n (some 8) .e .e) (.n (some 8) .e .e)))))) (.n (some 1) (.n (some 16) (.n (some 8) (.n (some 16) (.n (some 0) (.n (some 8) (.n (some 8) .e .e) .e) (.n (some 8) .e .e)) (.n (some 8) (.n (some 8) .e .e) (.n (some 8) .e .e))) (.n (some 0) (.n (some 8) (.n (some 8) (.n (some 8) .e .e) .e) (.n (some 0) .e .e)) (.n (some 8) (.n (some 0) .e .e) (.n (some 8) .e .e)))) (.n (some 8) (.n (some 176) (.n (some 8) (.n (some 8) (.n (some 40) .e .e) .e) (.n (some 8) .e .e)) (.n (some 32) (.n (some 24) .e .e) (.n (some 8) .e .e))) (.n (some 8) (.n (some 72) (.n (some 0) .e .e) (.n (some 8) .e .e)) (.n (some 8) (.n (some 8) .e .e) (.n (some 8) .e .e))))) (.n (some 24) (.n (some 4) (.n (some 24) (.n (some 8) (.n (some 8) (.n (some 8) .e .e) .e) (.n (some 8) .e .e)) (.n (some 8) (.n (some 8) .e .e) (.n (some 8) .e .e))) (.n (some 8) (.n (some 8) (.n (some 8) (.n (some 48) .e .e) .e) (.n (some 8) .e .e)) (.n (some 8) (.n (some 8) .e .e) (.n (some 8) .e .e)))) (.n (some 8) (.n (some 72) (.n (some 8) (.n (some 40) (.n (some 0) .e .e) .e) (.n (some 8) .e .e)) (.n (some 8) (.n (some 8) .e .e) (.n (some 8) .e .e))) (.n (some 8) (.n (some 8) (.n (some 8) .e .e) (.n (some 8) .e .e)) (.n (some 8) (.n (some 0) .e .e) (.n (some 8) .e .e))))))) (.n (some 8) (.n (some 1) (.n (some 24) (.n (some 8) (.n (some 16) (.n (some 24) (.n (some 8) (.n (some 8) .e .e) .e) (.n (some 8) .e .e)) (.n (some 8) (.n (some 24) .e .e) (.n (some 8) .e .e))) (.n (some 96) (.n (some 8) (.n (some 64) (.n (some 1) .e .e) .e) (.n (some 8) .e .e)) (.n (some 0) (.n (some 8) .e .e) (.n (some 8) .e .e)))) (.n (some 48) (.n (some 24) (.n (some 48) (.n (some 8) (.n (some 8) .e .e) .e) (.n (some 0) .e .e)) (.n (some 32) (.n (some 24) .e .e) (.n (some 8) .e .e))) (.n (some 8) (.n (some 72) (.n (some 8) .e .e) (.n (some 8) .e .e)) (.n (some 8) (.n (some 8) .e .e) (.n (some 8) .e .e))))) (.n (some 8) (.n (some 16) (.n (some 24) (.n (some 8) (.n (some 8) (.n (some 8) .e .e) .e) (.n (some 8) .e .e)) (.n (some 8) (.n (some 8) .e .e) (.n (some 8) .e .e))) (.n (some 24) (.n (some 8) (.n (some 8) (.n (some 4) .e .e) .e) (.n (some 8) .e .e)) (.n (some 8) (.n (some 8) .e .e) (.n (some 8) .e .e)))) (.n (some 8) (.n (some 72) (.n (some 8) (.n (some 8) (.n (some 0) .e .e) .e) (.n (some 8) .e .e)) (.n (some 8) (.n (some 8) .e .e) (.n (some 8) .e .e))) (.n (some 8) (.n (some 8) (.n (some 8) .e .e) (.n (some 8) .e .e)) (.n (some 128) (.n (some 8) .e .e) (.n (some 0) .e .e)))))) (.n (some 1) (.n (some 16) (.n (some 8) (.n (some 24) (.n (some 8) (.n (some 8) (.n (some 8) .e .e) .e) (.n (some 8) .e .e)) (.n (some 8) (.n (some 8) .e .e) (.n (some 8) .e .e))) (.n (some 8) (.n (some 8) (.n (some 8) (.n (some 8) .e .e) .e) (.n (some 8) .e .e)) (.n (some 0) (.n (some 8) .e .e) (.n (some 8) .e .e)))) (.n (some 8) (.n (some 176) (.n (some 0) (.n (some 8) (.n (some 40) .e .e) .e) (.n (some 24) .e .e)) (.n (some 8) (.n (some 0) .e .e) (.n (some 8) .e .e))) (.n (some 8) (.n (some 8) (.n (some 8) .e .e) (.n (some 8) .e .e)) (.n (some 8) (.n (some 8) .e .e) (.n (some 8) .e .e))))) (.n (some 24) (.n (some 24) (.n (some 48) (.n (some 24) (.n (some 8) (.n (some 8) .e .e) .e) (.n (some 8) .e .e)) (.n (some 8) (.n (some 8) .e .e) (.n (some 8) .e .e))) (.n (some 8) (.n (some 8) (.n (some 8) (.n (some 48) .e .e) .e) (.n (some 8) .e .e)) (.n (some 8) (.n (some 8) .e .e) (.n (some 8) .e .e)))) (.n (some 0) (.n (some 8) (.n (some 8) (.n (some 40) (.n (some 8) .e .e) .e) (.n (some 8) .e .e)) (.n (some 8) (.n (some 8) .e .e) (.n (some 8) .e .e))) (.n (some 0) (.n (some 8) (.n (some 8) .e .e) (.n (some 8) .e .e)) (.n (some 24) (.n (some 8) .e .e) (.n (some 8) .e .e))))))))
noncomputable def Tryz.aZer : T AV := (.n (some (.tup [])) (.n (some (.nilf)) (.n (some (.int .i64 0)) (.n (some (.agg [.int .i64 0, .int .i64 0, .bool false, .int .u8 0])) (.n (some (.nilp)) (.n (some (.nilf)) (.n (some (.nilf)) (.n (some (.nilf)) (.n (some (.nilf)) .e .e) .e) (.n (some (.nilf)) .e .e)) (.n (some (.nilf)) (.n (some (.nilf)) .e .e) (.n (some (.nilf)) .e .e))) (.n (some (.agg [.str [], .str [], .str [], .str [], .bool false, .bool false, .bool false, .bool false, .int .i64 0, .int .i64 0, .int .i64 0])) (.n (some (.nilf)) (.n (some (.agg [.str [], .str [], .bool false, .bool false, .str [], .int .i64 0])) (.n (some (.int .u8 0)) .e .e) .e) (.n (some (.nilf)) .e .e)) (.n (some (.nilf)) (.n (some (.nilf)) .e .e) (.n (some (.nilp)) .e .e)))) (.n (some (.agg [.str [], .str [], .str []])) (.n (some (.agg [.str [], .bool false, .bool false, .bool false, .bool false, .int .i64 0, .int .i64 0, .int .i64 0])) (.n (some (.agg [.int .i64 0, .int .i64 0, .int .i64 0, .nils])) (.n (some (.nilm)) (.n (some (.nilf)) .e .e) .e) (.n (some (.nils)) .e .e)) (.n (some (.nilf)) (.n (some (.nilf)) .e .e) (.n (some (.nilf)) .e .e))) (.n (some (.nilf)) (.n (some (.nilf)) (.n (some (.nilf)) (.n (some (.nilp)) .e .e) .e) (.n (some (.int .u32 0)) .e .e)) (.n (some (.nilf)) (.n (some (.nilf)) .e .e) (.n (some (.nilf)) .e .e))))) (.n (some (.str [])) (.n (some (.agg [.nilp])) (.n (some (.agg [.int .i64 0, .int .i64 0, .int .i64 0])) (.n (some (.nilf)) (.n (some (.nilf)) (.n (some (.nilf)) .e .e) .e) (.n (some (.nilf)) .e .e)) (.n (some (.nilm)) (.n (some (.nilf)) .e .e) (.n (some (.nilf)) .e .e))) (.n (some (.nilf)) (.n (some (.nilf)) (.n (some (.nilm)) (.n (some (.int .i32 0)) .e .e) .e) (.n (some (.nilf)) .e .e)) (.n (some (.nilf)) (.n (some (.nilf)) .e .e) (.n (some (.nilf)) .e .e)))) (.n (some (.nilp)) (.n (some (.nils)) (.n (some (.nilf)) (.n (some (.nilf)) (.n (some (.agg [])) .e .e) .e) (.n (some (.nilf)) .e .e)) (.n (some (.nilf)) (.n (some (.nilf)) .e .e) (.n (some (.int .u64 0)) .e .e))) (.n (some (.nilf)) (.n (some (.nilf)) (.n (some (.nilf)) .e .e) (.n (some (.nilf)) .e .e)) (.n (some (.agg [.int .i64 0, .str [], .str [], .str [], .str [], .bool false, .bool false, .bool false, .bool false, .int .i64 0, .int .i64 0, .int .i64 0, .nils])) (.n (some (.int .u64 0)) .e .e) (.n (some (.nilp)) .e .e)))))) (.n (some (.int .u8 0)) (.n (some (.str [])) (.n (some (.nilp)) (.n (some (.agg [.int .i64 0, .int .i64 0])) (.n (some (.tup [.nils, .int .i64 0])) (.n (some (.nilf)) (.n (some (.nilf)) .e .e) .e) (.n (some (.nilf)) .e .e)) (.n (some (.nilf)) (.n (some (.nilf)) .e .e) (.n (some (.nilf)) .e .e))) (.n none (.n (some (.nilf)) (.n (some (.nilf)) (.n (some (.nilf)) .e .e) .e) (.n (some (.tup [.int .i64 0, .int .i64 0])) .e .e)) (.n (some (.nilf)) (.n (some (.tup [.str [], .int .i64 0])) .e .e) (.n (some (.nilf)) .e .e)))) (.n (some (.nilf)) (.n (some (.agg [.int .i64 0, .int .i64 0, .int .i64 0, .int .i64 0, .int .i64 0, .int .i64 0, .int .i64 0, .str [], .str [], .str [], .str [], .bool false, .bool false, .bool false, .bool false, .int .i64 0, .int .i64 0, .int .i64 0, .nils])) (.n (some (.nilf)) (.n (some (.nilf)) (.n (some (.agg [.nilp, .nilp, .nilp, .str []])) .e .e) .e) (.n (some (.nilf)) .e .e)) (.n (some (.agg [.nilm, .nilm, .nilm, .nilp])) (.n (some (.agg [.str [], .bool false, .bool false])) .e .e) (.n (some (.nilf)) .e .e))) (.n (some (.nilf)) (.n (some (.agg [.int .i64 0, .int .i64 0, .int .i64 0, .nils, .nils])) (.n (some (.tup [.int .i64 0, .bool false])) .e .e) (.n (some (.int .u64 0)) .e .e)) (.n (some (.nilf)) (.n (some (.nilf)) .e .e) (.n (some (.nilf)) .e .e))))) (.n (some (.agg [.str [], .int .u64 0])) (.n (some (.int .i32 0)) (.n (some (.agg [.int .i64 0, .int .i64 0, .int .i64 0])) (.n (some (.nilf)) (.n (some (.nilf)) (.n (some (.nilf)) .e .e) .e) (.n (some (.nilf)) .e .e)) (.n (some (.nilm)) (.n (some (.nilf)) .e .e) (.n (some (.nilf)) .e .e))) (.n (some (.nilf)) (.n (some (.nilf)) (.n (some (.agg [.nilm])) (.n (some (.agg [.int .u64 0, .int .u64 0, .int .u32 0, .int .u8 0, .int .u8 0, .int .u8 0, .int .u8 0, .nilf, .nilp, .int .i32 0, .int .i32 0])) .e .e) .e) (.n (some (.nilf)) .e .e)) (.n (some (.nilf)) (.n (some (.nilf)) .e .e) (.n (some (.nilf)) .e .e)))) (.n (some (.int .i64 0)) (.n (some (.agg [.nils, .nils, .nils])) (.n (some (.nilf)) (.n (some (.agg [.str [], .str [], .bool false, .bool false])) (.n (some (.agg [])) .e .e) .e) (.n (some (.nilf)) .e .e)) (.n (some (.nilf)) (.n (some (.nilf)) .e .e) (.n (some (.nilf)) .e .e))) (.n (some (.nilf)) (.n (some (.nilf)) (.n (some (.nilf)) .e .e) (.n (some (.nilf)) .e .e)) (.n (some (.nilf)) (.n (some (.tup [.int .u8 0, .str []])) .e .e) (.n (some (.nilf)) .e .e))))))) (.n (some (.int .i64 0)) (.n (some (.bool false)) (.n (some (.agg [.int .i64 0, .int .i64 0, .bool false, .int .u8 0])) (.n (some (.nilp)) (.n (some (.agg [.int .i64 0, .int .i64 0])) (.n (some (.nils)) (.n (some (.nilf)) (.n (some (.nilf)) .e .e) .e) (.n (some (.nilf)) .e .e)) (.n (some (.nilf)) (.n (some (.nils)) .e .e) (.n (some (.nilf)) .e .e))) (.n (some (.agg [.str [], .str [], .str [], .str [], .bool false, .bool false, .bool false, .bool false, .int .i64 0, .int .i64 0, .int .i64 0])) (.n (some (.nilf)) (.n (some (.agg [.str [], .str [], .bool false, .bool false, .str [], .int .i64 0])) (.n (some (.int .u8 0)) .e .e) .e) (.n (some (.int .i64 0)) .e .e)) (.n none (.n (some (.nilf)) .e .e) (.n (some (.nilf)) .e .e)))) (.n (some (.agg [.str [], .str [], .str []])) (.n (some (.nils)) (.n (some (.agg [.int .i64 0, .int .i64 0, .int .i64 0, .nils])) (.n (some (.nilf)) (.n (some (.nilf)) .e .e) .e) (.n (some (.tup [.str [], .str [], .bool false])) .e .e)) (.n (some (.agg [.nilm, .nilm, .nilm, .nilp])) (.n (some (.agg [.str [], .bool false, .bool false])) .e .e) (.n (some (.nilf)) .e .e))) (.n (some (.nilf)) (.n (some (.agg [.int .i64 0, .int .i64 0, .int .i64 0, .nils, .nils])) (.n (some (.nilf)) .e .e) (.n (some (.nilf)) .e .e)) (.n (some (.nilf)) (.n (some (.nilf)) .e .e) (.n (some (.nilf)) .e .e))))) (.n (some (.int .u64 0)) (.n (some (.nili)) (.n (some (.agg [.int .i64 0, .int .i64 0, .int .i64 0])) (.n (some (.nilf)) (.n (some (.nilf)) (.n (some (.nilf)) .e .e) .e) (.n (some (.nilf)) .e .e)) (.n (some (.nilm)) (.n (some (.nilf)) .e .e) (.n (some (.nilf)) .e .e))) (.n (some (.nils)) (.n (some (.nilf)) (.n (some (.agg [.nilm])) (.n (some (.int .i32 0)) .e .e) .e) (.n (some (.nilf)) .e .e)) (.n (some (.nilf)) (.n (some (.nilf)) .e .e) (.n (some (.nilf)) .e .e)))) (.n (some (.nilf)) (.n (some (.agg [.nils, .nils, .nils])) (.n (some (.nilf)) (.n (some (.nilf)) (.n (some (.agg [])) .e .e) .e) (.n (some (.nilf)) .e .e)) (.n (some (.nilf)) (.n (some (.nilf)) .e .e) (.n (some (.nilf)) .e .e))) (.n (some (.nilf)) (.n (some (.nilf)) (.n (some (.nilf)) .e .e) (.n (some (.nilf)) .e .e)) (.n (some (.agg [.int .i64 0, .str [], .str [], .str [], .str [], .bool false, .bool false, .bool false, .bool false, .int .i64 0, .int .i64 0, .int .i64 0, .nils])) (.n (some (.nilf)) .e .e) (.n (some (.tup [.int .i64 0, .int .i64 0])) .e .e)))))) (.n (some (.int .u8 0)) (.n (some (.str [])) (.n (some (.agg [.nilp])) (.n (some (.agg [.int .i64 0, .int .i64 0, .int .i64 0])) (.n (some (.nilf)) (.n (some (.nilf)) (.n (some (.nilf)) .e .e) .e) (.n (some (.nilf)) .e .e)) (.n (some (.nilf)) (.n (some (.nilf)) .e .e) (.n (some (.nilf)) .e .e))) (.n (some (.nilf)) (.n (some (.nilf)) (.n (some (.nilf)) (.n (some (.nilp)) .e .e) .e) (.n (some (.nilf)) .e .e)) (.n none (.n (some (.nilf)) .e .e) (.n (some (.nilf)) .e .e)))) (.n (some (.nilf)) (.n (some (.agg [.int .i64 0, .int .i64 0, .int .i64 0, .int .i64 0, .int .i64 0, .int .i64 0, .int .i64 0, .str [], .str [], .str [], .str [], .bool false, .bool false, .bool false, .bool false, .int .i64 0, .int .i64 0, .int .i64 0, .nils])) (.n (some (.tup [.nils, .int .i64 0])) (.n (some (.nilf)) (.n (some (.agg [.nilp, .nilp, .nilp, .str []])) .e .e) .e) (.n (some (.nils)) .e .e)) (.n (some (.nilf)) (.n none .e .e) (.n (some (.nilf)) .e .e))) (.n (some (.nilf)) (.n (some (.nilf)) (.n (some (.nilf)) .e .e) (.n (some (.nilf)) .e .e)) (.n (some (.nilf)) (.n (some (.nilf)) .e .e) (.n (some (.nilf)) .e .e))))) (.n (some (.agg [.str [], .int .u64 0])) (.n (some (.nils)) (.n (some (.agg [.str [], .bool false, .bool false, .bool false, .bool false, .int .i64 0, .int .i64 0, .int .i64 0])) (.n (some (.nils)) (.n (some (.nilf)) (.n (some (.nilf)) .e .e) .e) (.n (some (.nilf)) .e .e)) (.n (some (.nilp)) (.n (some (.nilf)) .e .e) (.n (some (.nilf)) .e .e))) (.n (some (.nilf)) (.n (some (.nilf)) (.n (some (.nilf)) (.n (some (.agg [.int .u64 0, .int .u64 0, .int .u32 0, .int .u8 0, .int .u8 0, .int .u8 0, .int .u8 0, .nilf, .nilp, .int .i32 0, .int .i32 0])) .e .e) .e) (.n (some (.nilf)) .e .e)) (.n (some (.nilf)) (.n (some (.nilf)) .e .e) (.n (some (.nilf)) .e .e)))) (.n (some (.tup [.bool false, .int .i64 0])) (.n (some (.nilf)) (.n (some (.nilf)) (.n (some (.agg [.str [], .str [], .bool false, .bool false])) (.n (some (.nilf)) .e .e) .e) (.n (some (.nilf)) .e .e)) (.n (some (.nilf)) (.n (some (.nilf)) .e .e) (.n (some (.nilf)) .e .e))) (.n none (.n (some (.nilf)) (.n (some (.nilf)) .e .e) (.n (some (.nilf)) .e .e)) (.n (some (.agg [.int .i64 0, .int .i64 0, .int .i64 0])) (.n (some (.nilf)) .e .e) (.n (some (.nilf)) .e .e))))))))
noncomputable def Tryz.aAgg : T Bool := (.n (some false) (.n (some false) (.n (some false) (.n (some true) (.n (some false) (.n (some false) (.n (some false) (.n (some false) (.n (some false) .e .e) .e) (.n (some false) .e .e)) (.n (some false) (.n (some false) .e .e) (.n (some false) .e .e))) (.n (some true) (.n (some false) (.n (some true) (.n (some false) .e .e) .e) (.n (some false) .e .e)) (.n (some false) (.n (some false) .e .e) (.n (some false) .e .e)))) (.n (some true) (.n (some true) (.n (some true) (.n (some false) (.n (some false) .e .e) .e) (.n (some false) .e .e)) (.n (some false) (.n (some false) .e .e) (.n (some false) .e .e))) (.n (some false) (.n (some false) (.n (some false) (.n (some false) .e .e) .e) (.n (some false) .e .e)) (.n (some false) (.n (some false) .e .e) (.n (some false) .e .e))))) (.n (some false) (.n (some true) (.n (some true) (.n (some false) (.n (some false) (.n (some false) .e .e) .e) (.n (some false) .e .e)) (.n (some false) (.n (some false) .e .e) (.n (some false) .e .e))) (.n (some false) (.n (some false) (.n (some false) (.n (some false) .e .e) .e) (.n (some false) .e .e)) (.n (some false) (.n (some false) .e .e) (.n (some false) .e .e)))) (.n (some false) (.n (some false) (.n (some false) (.n (some false) (.n (some true) .e .e) .e) (.n (some false) .e .e)) (.n (some false) (.n (some false) .e .e) (.n (some false) .e .e))) (.n (some false) (.n (some false) (.n (some false) .e .e) (.n (some false) .e .e)) (.n (some true) (.n (some false) .e .e) (.n (some false) .e .e)))))) (.n (some false) (.n (some false) (.n (some false) (.n (some true) (.n (some false) (.n (some false) (.n (some false) .e .e) .e) (.n (some false) .e .e)) (.n (some false) (.n (some false) .e .e) (.n (some false) .e .e))) (.n (some false) (.n (some false) (.n (some false) (.n (some false) .e .e) .e) (.n (some false) .e .e)) (.n (some false) (.n (some false) .e .e) (.n (some false) .e .e)))) (.n (some false) (.n (some true) (.n (some false) (.n (some false) (.n (some true) .e .e) .e) (.n (some false) .e .e)) (.n (some true) (.n (some true) .e .e) (.n (some false) .e .e))) (.n (some false) (.n (some true) (.n (some false) .e .e) (.n (some false) .e .e)) (.n (some false) (.n (some false) .e .e) (.n (some false) .e .e))))) (.n (some true) (.n (some false) (.n (some true) (.n (some false) (.n (some false) (.n (some false) .e .e) .e) (.n (some false) .e .e)) (.n (some false) (.n (some false) .e .e) (.n (some false) .e .e))) (.n (some false) (.n (some false) (.n (some true) (.n (some true) .e .e) .e) (.n (some false) .e .e)) (.n (some false) (.n (some false) .e .e) (.n (some false) .e .e)))) (.n (some false) (.n (some true) (.n (some false) (.n (some true) (.n (some true) .e .e) .e) (.n (some false) .e .e)) (.n (some false) (.n (some false) .e .e) (.n (some false) .e .e))) (.n (some false) (.n (some false) (.n (some false) .e .e) (.n (some false) .e .e)) (.n (some false) (.n (some false) .e .e) (.n (some false) .e .e))))))) (.n (some false) (.n (some false) (.n (some true) (.n (some false) (.n (some true) (.n (some false) (.n (some false) (.n (some false) .e .e) .e) (.n (some false) .e .e)) (.n (some false) (.n (some false) .e .e) (.n (some false) .e .e))) (.n (some true) (.n (some false) (.n (some true) (.n (some false) .e .e) .e) (.n (some false) .e .e)) (.n (some false) (.n (some false) .e .e) (.n (some false) .e .e)))) (.n (some true) (.n (some false) (.n (some true) (.n (some false) (.n (some false) .e .e) .e) (.n (some false) .e .e)) (.n (some true) (.n (some true) .e .e) (.n (some false) .e .e))) (.n (some false) (.n (some true) (.n (some false) .e .e) (.n (some false) .e .e)) (.n (some false) (.n (some false) .e .e) (.n (some false) .e .e))))) (.n (some false) (.n (some false) (.n (some true) (.n (some false) (.n (some false) (.n (some false) .e .e) .e) (.n (some false) .e .e)) (.n (some false) (.n (some false) .e .e) (.n (some false) .e .e))) (.n (some false) (.n (some false) (.n (some true) (.n (some false) .e .e) .e) (.n (some false) .e .e)) (.n (some false) (.n (some false) .e .e) (.n (some false) .e .e)))) (.n (some false) (.n (some true) (.n (some false) (.n (some false) (.n (some true) .e .e) .e) (.n (some false) .e .e)) (.n (some false) (.n (some false) .e .e) (.n (some false) .e .e))) (.n (some false) (.n (some false) (.n (some false) .e .e) (.n (some false) .e .e)) (.n (some true) (.n (some false) .e .e) (.n (some false) .e .e)))))) (.n (some false) (.n (some false) (.n (some true) (.n (some true) (.n (some false) (.n (some false) (.n (some false) .e .e) .e) (.n (some false) .e .e)) (.n (some false) (.n (some false) .e .e) (.n (some false) .e .e))) (.n (some false) (.n (some false) (.n (some false) (.n (some false) .e .e) .e) (.n (some false) .e .e)) (.n (some false) (.n (some false) .e .e) (.n (some false) .e .e)))) (.n (some false) (.n (some true) (.n (some false) (.n (some false) (.n (some true) .e .e) .e) (.n (some false) .e .e)) (.n (some false) (.n (some false) .e .e) (.n (some false) .e .e))) (.n (some false) (.n (some false) (.n (some false) .e .e) (.n (some false) .e .e)) (.n (some false) (.n (some false) .e .e) (.n (some false) .e .e))))) (.n (some true) (.n (some false) (.n (some true) (.n (some false) (.n (some false) (.n (some false) .e .e) .e) (.n (some false) .e .e)) (.n (some false) (.n (some false) .e .e) (.n (some false) .e .e))) (.n (some false) (.n (some false) (.n (some false) (.n (some true) .e .e) .e) (.n (some false) .e .e)) (.n (some false) (.n (some false) .e .e) (.n (some false) .e .e)))) (.n (some false) (.n (some false) (.n (some false) (.n (some true) (.n (some false) .e .e) .e) (.n (some false) .e .e)) (.n (some false) (.n (some false) .e .e) (.n (some false) .e .e))) (.n (some false) (.n (some false) (.n (some false) .e .e) (.n (some false) .e .e)) (.n (some true) (.n (some false) .e .e) (.n (some false) .e .e))))))))
noncomputable def Tryz.aHeld : T Bool := (.n (some false) (.n (some false) (.n (some false) (.n (some false) (.n (some false) (.n (some false) (.n (some false) (.n (some false) (.n (some false) .e .e) .e) (.n (some false) .e .e)) (.n (some false) (.n (some false) .e .e) (.n (some false) .e .e))) (.n (some false) (.n (some false) (.n (some false) (.n (some false) .e .e) .e) (.n (some false) .e .e)) (.n (some false) (.n (some false) .e .e) (.n (some false) .e .e)))) (.n (some false) (.n (some false) (.n (some false) (.n (some false) (.n (some false) .e .e) .e) (.n (some false) .e .e)) (.n (some false) (.n (some false) .e .e) (.n (some false) .e .e))) (.n (some false) (.n (some false) (.n (some false) (.n (some false) .e .e) .e) (.n (some false) .e .e)) (.n (some false) (.n (some false) .e .e) (.n (some false) .e .e))))) (.n (some false) (.n (some true) (.n (some false) (.n (some false) (.n (some false) (.n (some false) .e .e) .e) (.n (some false) .e .e)) (.n (some false) (.n (some false) .e .e) (.n (some false) .e .e))) (.n (some false) (.n (some false) (.n (some false) (.n (some false) .e .e) .e) (.n (some false) .e .e)) (.n (some false) (.n (some false) .e .e) (.n (some false) .e .e)))) (.n (some false) (.n (some false) (.n (some false) (.n (some false) (.n (some false) .e .e) .e) (.n (some false) .e .e)) (.n (some false) (.n (some false) .e .e) (.n (some false) .e .e))) (.n (some false) (.n (some false) (.n (some false) .e .e) (.n (some false) .e .e)) (.n (some false) (.n (some false) .e .e) (.n (some false) .e .e)))))) (.n (some false) (.n (some false) (.n (some false) (.n (some false) (.n (some false) (.n (some false) (.n (some false) .e .e) .e) (.n (some false) .e .e)) (.n (some false) (.n (some false) .e .e) (.n (some false) .e .e))) (.n (some false) (.n (some false) (.n (some false) (.n (some false) .e .e) .e) (.n (some false) .e .e)) (.n (some false) (.n (some false) .e .e) (.n (some false) .e .e)))) (.n (some false) (.n (some false) (.n (some false) (.n (some false) (.n (some true) .e .e) .e) (.n (some false) .e .e)) (.n (some false) (.n (some false) .e .e) (.n (some false) .e .e))) (.n (some false) (.n (some false) (.n (some false) .e .e) (.n (some false) .e .e)) (.n (some false) (.n (some false) .e .e) (.n (some false) .e .e))))) (.n (some true) (.n (some false) (.n (some false) (.n (some false) (.n (some false) (.n (some false) .e .e) .e) (.n (some false) .e .e)) (.n (some false) (.n (some false) .e .e) (.n (some false) .e .e))) (.n (some false) (.n (some false) (.n (some false) (.n (some true) .e .e) .e) (.n (some false) .e .e)) (.n (some false) (.n (some false) .e .e) (.n (some false) .e .e)))) (.n (some false) (.n (some false) (.n (some false) (.n (some false) (.n (some true) .e .e) .e) (.n (some false) .e .e)) (.n (some false) (.n (some false) .e .e) (.n (some false) .e .e))) (.n (some false) (.n (some false) (.n (some false) .e .e) (.n (some false) .e .e)) (.n (some false) (.n (some false) .e .e) (.n (some false) .e .e))))))) (.n (some false) (.n (some false) (.n (some false) (.n (some false) (.n (some false) (.n (some false) (.n (some false) (.n (some false) .e .e) .e) (.n (some false) .e .e)) (.n (some false) (.n (some false) .e .e) (.n (some false) .e .e))) (.n (some false) (.n (some false) (.n (some false) (.n (some false) .e .e) .e) (.n (some false) .e .e)) (.n (some false) (.n (some false) .e .e) (.n (some false) .e .e)))) (.n (some false) (.n (some false) (.n (some false) (.n (some false) (.n (some false) .e .e) .e) (.n (some false) .e .e)) (.n (some false) (.n (some false) .e .e) (.n (some false) .e .e))) (.n (some false) (.n (some false) (.n (some false) .e .e) (.n (some false) .e .e)) (.n (some false) (.n (some false) .e .e) (.n (some false) .e .e))))) (.n (some false) (.n (some false) (.n (some false) (.n (some false) (.n (some false) (.n (some false) .e .e) .e) (.n (some false) .e .e)) (.n (some false) (.n (some false) .e .e) (.n (some false) .e .e))) (.n (some false) (.n (some false) (.n (some false) (.n (some false) .e .e) .e) (.n (some false) .e .e)) (.n (some false) (.n (some false) .e .e) (.n (some false) .e .e)))) (.n (some false) (.n (some false) (.n (some false) (.n (some false) (.n (some true) .e .e) .e) (.n (some false) .e .e)) (.n (some false) (.n (some false) .e .e) (.n (some false) .e .e))) (.n (some false) (.n (some false) (.n (some false) .e .e) (.n (some false) .e .e)) (.n (some false) (.n (some false) .e .e) (.n (some false) .e .e)))))) (.n (some false) (.n (some false) (.n (some true) (.n (some false) (.n (some false) (.n (some false) (.n (some false) .e .e) .e) (.n (some false) .e .e)) (.n (some false) (.n (some false) .e .e) (.n (some false) .e .e))) (.n (some false) (.n (some false) (.n (some false) (.n (some false) .e .e) .e) (.n (some false) .e .e)) (.n (some false) (.n (some false) .e .e) (.n (some false) .e .e)))) (.n (some false) (.n (some false) (.n (some false) (.n (some false) (.n (some true) .e .e) .e) (.n (some false) .e .e)) (.n (some false) (.n (some false) .e .e) (.n (some false) .e .e))) (.n (some false) (.n (some false) (.n (some false) .e .e) (.n (some false) .e .e)) (.n (some false) (.n (some false) .e .e) (.n (some false) .e .e))))) (.n (some true) (.n (some false) (.n (some false) (.n (some false) (.n (some false) (.n (some false) .e .e) .e) (.n (some false) .e .e)) (.n (some false) (.n (some false) .e .e) (.n (some false) .e .e))) (.n (some false) (.n (some false) (.n (some false) (.n (some true) .e .e) .e) (.n (some false) .e .e)) (.n (some false) (.n (some false) .e .e) (.n (some false) .e .e)))) (.n (some false) (.n (some false) (.n (some false) (.n (some false) (.n (some false) .e .e) .e) (.n (some false) .e .e)) (.n (some false) (.n (some false) .e .e) (.n (some false) .e .e))) (.n (some false) (.n (some false) (.n (some false) .e .e) (.n (some false) .e .e)) (.n (some false) (.n (some false) .e .e) (.n (some false) .e .e))))))))
noncomputable def Tryz.aGrd : T Bool := (.n (some false) (.n (some false) (.n (some false) (.n (some false) (.n (some false) (.n (some false) (.n (some false) (.n (some false) (.n (some false) .e .e) .e) (.n (some false) .e .e)) (.n (some false) (.n (some false) .e .e) (.n (some false) .e .e))) (.n (some false) (.n (some false) (.n (some false) (.n (some false) .e .e) .e) (.n (some false) .e .e)) (.n (some false) (.n (some false) .e .e) (.n (some false) .e .e)))) (.n (some false) (.n (some false) (.n (some false) (.n (some false) (.n (some false) .e .e) .e) (.n (some false) .e .e)) (.n (some false) (.n (some false) .e .e) (.n (some false) .e .e))) (.n (some false) (.n (some false) (.n (some false) (.n (some false) .e .e) .e) (.n (some false) .e .e)) (.n (some false) (.n (some false) .e .e) (.n (some false) .e .e))))) (.n (some false) (.n (some false) (.n (some false) (.n (some false) (.n (some false) (.n (some false) .e .e) .e) (.n (some false) .e .e)) (.n (some false) (.n (some false) .e .e) (.n (some false) .e .e))) (.n (some false) (.n (some false) (.n (some false) (.n (some false) .e .e) .e) (.n (some false) .e .e)) (.n (some false) (.n (some false) .e .e) (.n (some false) .e .e)))) (.n (some false) (.n (some false) (.n (some false) (.n (some false) (.n (some false) .e .e) .e) (.n (some false) .e .e)) (.n (some false) (.n (some false) .e .e) (.n (some false) .e .e))) (.n (some false) (.n (some false) (.n (some false) .e .e) (.n (some false) .e .e)) (.n (some false) (.n (some false) .e .e) (.n (some false) .e .e)))))) (.n (some false) (.n (some false) (.n (some false) (.n (some false) (.n (some false) (.n (some false) (.n (some false) .e .e) .e) (.n (some false) .e .e)) (.n (some false) (.n (some false) .e .e) (.n (some false) .e .e))) (.n (some false) (.n (some false) (.n (some false) (.n (some false) .e .e) .e) (.n (some false) .e .e)) (.n (some false) (.n (some false) .e .e) (.n (some false) .e .e)))) (.n (some false) (.n (some false) (.n (some false) (.n (some false) (.n (some false) .e .e) .e) (.n (some false) .e .e)) (.n (some false) (.n (some false) .e .e) (.n (some false) .e .e))) (.n (some false) (.n (some false) (.n (some false) .e .e) (.n (some false) .e .e)) (.n (some false) (.n (some false) .e .e) (.n (some false) .e .e))))) (.n (some false) (.n (some false) (.n (some false) (.n (some false) (.n (some false) (.n (some false) .e .e) .e) (.n (some false) .e .e)) (.n (some false) (.n (some false) .e .e) (.n (some false) .e .e))) (.n (some false) (.n (some false) (.n (some false) (.n (some false) .e .e) .e) (.n (some false) .e .e)) (.n (some false) (.n (some false) .e .e) (.n (some false) .e .e)))) (.n (some false) (.n (some false) (.n (some false) (.n (some false) (.n (some false) .e .e) .e) (.n (some false) .e .e)) (.n (some false) (.n (some false) .e .e) (.n (some false) .e .e))) (.n (some false) (.n (some false) (.n (some false) .e .e) (.n (some false) .e .e)) (.n (some false) (.n (some false) .e .e) (.n (some false) .e .e))))))) (.n (some false) (.n (some false) (.n (some false) (.n (some false) (.n (some false) (.n (some false) (.n (some false) (.n (some false) .e .e) .e) (.n (some false) .e .e)) (.n (some false) (.n (some false) .e .e) (.n (some false) .e .e))) (.n (some false) (.n (some false) (.n (some false) (.n (some false) .e .e) .e) (.n (some false) .e .e)) (.n (some false) (.n (some false) .e .e) (.n (some false) .e .e)))) (.n (some false) (.n (some false) (.n (some false) (.n (some false) (.n (some false) .e .e) .e) (.n (some false) .e .e)) (.n (some false) (.n (some false) .e .e) (.n (some false) .e .e))) (.n (some false) (.n (some false) (.n (some false) .e .e) (.n (some false) .e .e)) (.n (some false) (.n (some false) .e .e) (.n (some false) .e .e))))) (.n (some false) (.n (some false) (.n (some false) (.n (some false) (.n (some false) (.n (some false) .e .e) .e) (.n (some false) .e .e)) (.n (some false) (.n (some false) .e .e) (.n (some false) .e .e))) (.n (some false) (.n (some false) (.n (some false) (.n (some false) .e .e) .e) (.n (some false) .e .e)) (.n (some false) (.n (some false) .e .e) (.n (some false) .e .e)))) (.n (some false) (.n (some false) (.n (some false) (.n (some false) (.n (some false) .e .e) .e) (.n (some false) .e .e)) (.n (some false) (.n (some false) .e .e) (.n (some false) .e .e))) (.n (some false) (.n (some false) (.n (some false) .e .e) (.n (some false) .e .e)) (.n (some false) (.n (some false) .e .e) (.n (some false) .e .e)))))) (.n (some false) (.n (some false) (.n (some false) (.n (some false) (.n (some false) (.n (some false) (.n (some false) .e .e) .e) (.n (some false) .e .e)) (.n (some false) (.n (some false) .e .e) (.n (some false) .e .e))) (.n (some false) (.n (some false) (.n (some false) (.n (some false) .e .e) .e) (.n (some false) .e .e)) (.n (some false) (.n (some false) .e .e) (.n (some false) .e .e)))) (.n (some false) (.n (some false) (.n (some false) (.n (some false) (.n (some false) .e .e) .e) (.n (some false) .e .e)) (.n (some false) (.n (some false) .e .e) (.n (some false) .e .e))) (.n (some false) (.n (some false) (.n (some false) .e .e) (.n (some false) .e .e)) (.n (some false) (.n (some false) .e .e) (.n (some false) .e .e))))) (.n (some false) (.n (some false) (.n (some false) (.n (some false) (.n (some false) (.n (some false) .e .e) .e) (.n (some false) .e .e)) (.n (some false) (.n (some false) .e .e) (.n (some false) .e .e))) (.n (some false) (.n (some false) (.n (some false) (.n (some false) .e .e) .e) (.n (some false) .e .e)) (.n (some false) (.n (some false) .e .e) (.n (some false) .e .e)))) (.n (some false) (.n (some false) (.n (some false) (.n (some false) (.n (some false) .e .e) .e) (.n (some false) .e .e)) (.n (some false) (.n (some false) .e .e) (.n (some false) .e .e))) (.n (some false) (.n (some false) (.n (some false) .e .e) (.n (some false) .e .e)) (.n (some false) (.n (some false) .e .e) (.n (some false) .e .e))))))))
noncomputable def Tryz.aFns : T Func := (.n (some Tryz.f0) (.n (some Tryz.f1) (.n (some Tryz.f3) (.n (some Tryz.f7) (.n (some Tryz.f15) (.n (some Tryz.f31) (.n (some Tryz.f63) (.n (some Tryz.f127) (.n (some Tryz.f255) .e .e) .e) (.n (some Tryz.f191) .e .e)) (.n (some Tryz.f95) (.n (some Tryz.f159) (.n (some Tryz.f287) .e .e) .e) (.n (some Tryz.f223) .e .e))) (.n (some Tryz.f47) (.n (some Tryz.f79) (.n (some Tryz.f143) (.n (some Tryz.f271) .e .e) .e) (.n (some Tryz.f207) .e .e)) (.n (some Tryz.f111) (.n (some Tryz.f175) .e .e) (.n (some Tryz.f239) .e .e)))) (.n (some Tryz.f23) (.n (some Tryz.f39) (.n (some Tryz.f71) (.n (some Tryz.f135) (.n (some Tryz.f263) .e .e) .e) (.n (some Tryz.f199) .e .e)) (.n (some Tryz.f103) (.n (some Tryz.f167) .e .e) (.n (some Tryz.f231) .e .e))) (.n (some Tryz.f55) (.n (some Tryz.f87) (.n (some Tryz.f151) (.n (some Tryz.f279) .e .e) .e) (.n (some Tryz.f215) .e .e)) (.n (some Tryz.f119) (.n (some Tryz.f183) .e .e) (.n (some Tryz.f247) .e .e))))) (.n (some Tryz.f11) (.n (some Tryz.f19) (.n (some Tryz.f35) (.n (some Tryz.f67) (.n (some Tryz.f131) (.n (some Tryz.f259) .e .e) .e) (.n (some Tryz.f195) .e .e)) (.n (some Tryz.f99) (.n (some Tryz.f163) .e .e) (.n (some Tryz.f227) .e .e))) (.n (some Tryz.f51) (.n (some Tryz.f83) (.n (some Tryz.f147) (.n (some Tryz.f275) .e .e) .e) (.n (some Tryz.f211) .e .e)) (.n (some Tryz.f115) (.n (some Tryz.f179) .e .e) (.n (some Tryz.f243) .e .e)))) (.n (some Tryz.f27) (.n (some Tryz.f43) (.n (some Tryz.f75) (.n (some Tryz.f139) (.n (some Tryz.f267) .e .e) .e) (.n (some Tryz.f203) .e .e)) (.n (some Tryz.f107) (.n (some Tryz.f171) .e .e) (.n (some Tryz.f235) .e .e))) (.n (some Tryz.f59) (.n (some Tryz.f91) (.n (some Tryz.f155) (.n (some Tryz.f283) .e .e) .e) (.n (some Tryz.f219) .e .e)) (.n (some Tryz.f123) (.n (some Tryz.f187) .e .e) (.n (some Tryz.f251) .e .e)))))) (.n (some Tryz.f5) (.n (some Tryz.f9) (.n (some Tryz.f17) (.n (some Tryz.f33) (.n (some Tryz.f65) (.n (some Tryz.f129) (.n (some Tryz.f257) .e .e) .e) (.n (some Tryz.f193) .e .e)) (.n (some Tryz.f97) (.n (some Tryz.f161) (.n (some Tryz.f289) .e .e) .e) (.n (some Tryz.f225) .e .e))) (.n (some Tryz.f49) (.n (some Tryz.f81) (.n (some Tryz.f145) (.n (some Tryz.f273) .e .e) .e) (.n (some Tryz.f209) .e .e)) (.n (some Tryz.f113) (.n (some Tryz.f177) .e .e) (.n (some Tryz.f241) .e .e)))) (.n (some Tryz.f25) (.n (some Tryz.f41) (.n (some Tryz.f73) (.n (some Tryz.f137) (.n (some Tryz.f265) .e .e) .e) (.n (some Tryz.f201) .e .e)) (.n (some Tryz.f105) (.n (some Tryz.f169) .e .e) (.n (some Tryz.f233) .e .e))) (.n (some Tryz.f57) (.n (some Tryz.f89) (.n (some Tryz.f153) (.n (some Tryz.f281) .e .e) .e) (.n (some Tryz.f217) .e .e)) (.n (some Tryz.f121) (.n (some Tryz.f185) .e .e) (.n (some Tryz.f249) .e .e))))) (.n (some Tryz.f13) (.n (some Tryz.f21) (.n (some Tryz.f37) (.n (some Tryz.f69) (.n (some Tryz.f133) (.n (some Tryz.f261) .e .e) .e) (.n (some Tryz.f197) .e .e)) (.n (some Tryz.f101) (.n (some Tryz.f165) .e .e) (.n (some Tryz.f229) .e .e))) (.n (some Tryz.f53) (.n (some Tryz.f85) (.n (some Tryz.f149) (.n (some Tryz.f277) .e .e) .e) (.n (some Tryz.f213) .e .e)) (.n (some Tryz.f117) (.n (some Tryz.f181) .e .e) (.n (some Tryz.f245) .e .e)))) (.n (some Tryz.f29) (.n (some Tryz.f45) (.n (some Tryz.f77) (.n (some Tryz.f141) (.n (some Tryz.f269) .e .e) .e) (.n (some Tryz.f205) .e .e)) (.n (some Tryz.f109) (.n (some Tryz.f173) .e .e) (.n (some Tryz.f237) .e .e))) (.n (some Tryz.f61) (.n (some Tryz.f93) (.n (some Tryz.f157) (.n (some Tryz.f285) .e .e) .e) (.n (some Tryz.f221) .e .e)) (.n (some Tryz.f125) (.n (some Tryz.f189) .e .e) (.n (some Tryz.f253) .e .e))))))) (.n (some Tryz.f2) (.n (some Tryz.f4) (.n (some Tryz.f8) (.n (some Tryz.f16) (.n (some Tryz.f32) (.n (some Tryz.f64) (.n (some Tryz.f128) (.n (some Tryz.f256) .e .e) .e) (.n (some Tryz.f192) .e .e)) (.n (some Tryz.f96) (.n (some Tryz.f160) (.n (some Tryz.f288) .e .e) .e) (.n (some Tryz.f224) .e .e))) (.n (some Tryz.f48) (.n (some Tryz.f80) (.n (some Tryz.f144) (.n (some Tryz.f272) .e .e) .e) (.n (some Tryz.f208) .e .e)) (.n (some Tryz.f112) (.n (some Tryz.f176) .e .e) (.n (some Tryz.f240) .e .e)))) (.n (some Tryz.f24) (.n (some Tryz.f40) (.n (some Tryz.f72) (.n (some Tryz.f136) (.n (some Tryz.f264) .e .e) .e) (.n (some Tryz.f200) .e .e)) (.n (some Tryz.f104) (.n (some Tryz.f168) .e .e) (.n (some Tryz.f232) .e .e))) (.n (some Tryz.f56) (.n (some Tryz.f88) (.n (some Tryz.f152) (.n (some Tryz.f280) .e .e) .e) (.n (some Tryz.f216) .e .e)) (.n (some Tryz.f120) (.n (some Tryz.f184) .e .e) (.n (some Tryz.f248) .e .e))))) (.n (some Tryz.f12) (.n (some Tryz.f20) (.n (some Tryz.f36) (.n (some Tryz.f68) (.n (some Tryz.f132) (.n (some Tryz.f260) .e .e) .e) (.n (some Tryz.f196) .e .e)) (.n (some Tryz.f100) (.n (some Tryz.f164) .e .e) (.n (some Tryz.f228) .e .e))) (.n (some Tryz.f52) (.n (some Tryz.f84) (.n (some Tryz.f148) (.n (some Tryz.f276) .e .e) .e) (.n (some Tryz.f212) .e .e)) (.n (some Tryz.f116) (.n (some Tryz.f180) .e .e) (.n (some Tryz.f244) .e .e)))) (.n (some Tryz.f28) (.n (some Tryz.f44) (.n (some Tryz.f76) (.n (some Tryz.f140) (.n (some Tryz.f268) .e .e) .e) (.n (some Tryz.f204) .e .e)) (.n (some Tryz.f108) (.n (some Tryz.f172) .e .e) (.n (some Tryz.f236) .e .e))) (.n (some Tryz.f60) (.n (some Tryz.f92) (.n (some Tryz.f156) (.n (some Tryz.f284) .e .e) .e) (.n (some Tryz.f220) .e .e)) (.n (some Tryz.f124) (.n (some Tryz.f188) .e .e) (.n (some Tryz.f252) .e .e)))))) (.n (some Tryz.f6) (.n (some Tryz.f10) (.n (some Tryz.f18) (.n (some Tryz.f34) (.n (some Tryz.f66) (.n (some Tryz.f130) (.n (some Tryz.f258) .e .e) .e) (.n (some Tryz.f194) .e .e)) (.n (some Tryz.f98) (.n (some Tryz.f162) .e .e) (.n (some Tryz.f226) .e .e))) (.n (some Tryz.f50) (.n (some Tryz.f82) (.n (some Tryz.f146) (.n (some Tryz.f274) .e .e) .e) (.n (some Tryz.f210) .e .e)) (.n (some Tryz.f114) (.n (some Tryz.f178) .e .e) (.n (some Tryz.f242) .e .e)))) (.n (some Tryz.f26) (.n (some Tryz.f42) (.n (some Tryz.f74) (.n (some Tryz.f138) (.n (some Tryz.f266) .e .e) .e) (.n (some Tryz.f202) .e .e)) (.n (some Tryz.f106) (.n (some Tryz.f170) .e .e) (.n (some Tryz.f234) .e .e))) (.n (some Tryz.f58) (.n (some Tryz.f90) (.n (some Tryz.f154) (.n (some Tryz.f282) .e .e) .e) (.n (some Tryz.f218) .e .e)) (.n (some Tryz.f122) (.n (some Tryz.f186) .e .e) (.n (some Tryz.f250) .e .e))))) (.n (some Tryz.f14) (.n (some Tryz.f22) (.n (some Tryz.f38) (.n (some Tryz.f70) (.n (some Tryz.f134) (.n (some Tryz.f262) .e .e) .e) (.n (some Tryz.f198) .e .e)) (.n (some Tryz.f102) (.n (some Tryz.f166) .e .e) (.n (some Tryz.f230) .e .e))) (.n (some Tryz.f54) (.n (some Tryz.f86) (.n (some Tryz.f150) (.n (some Tryz.f278) .e .e) .e) (.n (some Tryz.f214) .e .e)) (.n (some Tryz.f118) (.n (some Tryz.f182) .e .e) (.n (some Tryz.f246) .e .e)))) (.n (some Tryz.f30) (.n (some Tryz.f46) (.n (some Tryz.f78) (.n (some Tryz.f142) (.n (some Tryz.f270) .e .e) .e) (.n (some Tryz.f206) .e .e)) (.n (some Tryz.f110) (.n (some Tryz.f174) .e .e) (.n (some Tryz.f238) .e .e))) (.n (some Tryz.f62) (.n (some Tryz.f94) (.n (some Tryz.f158) (.n (some Tryz.f286) .e .e) .e) (.n (some Tryz.f222) .e .e)) (.n (some Tryz.f126) (.n (some Tryz.f190) .e .e) (.n (some Tryz.f254) .e .e))))))))
noncomputable def Tryz.aExt : T Nat := extOf [(136, 4), (244, 1)]
noncomputable def Tryz.tab : Tab := { und := Tryz.aUnd, siz := Tryz.aSiz, byt := Tryz.aByt, zer := Tryz.aZer, agg := Tryz.aAgg, cmp := .e, held := Tryz.aHeld, grd := Tryz.aGrd, fns := Tryz.aFns, ext := Tryz.aExt, merge := fun _ => false }
end Go.Proofs

namespace Go.Proofs
open Go Go.Am
set_option maxRecDepth 100000
theorem Tryz.h1 : Tryz.tab.und.reval Tryz.prog.underlying = Tryz.tab.und := by kernel_rfl
theorem Tryz.h2 : Tryz.tab.siz.reval (fun t => (Tryz.prog.info? t).map (·.size)) = Tryz.tab.siz := by kernel_rfl
theorem Tryz.h3 : Tryz.tab.byt.reval (fun t => (Tryz.prog.info? t).map (·.bytes)) = Tryz.tab.byt := by kernel_rfl
theorem Tryz.h4 : Tryz.tab.zer.reval (fun t => ((Tryz.prog.info? t).bind (·.zero)).map ofConst) = Tryz.tab.zer := by kernel_rfl
theorem Tryz.h5 : Tryz.tab.agg.reval (fun t => (Tryz.prog.underlying t).map aggOf) = Tryz.tab.agg := by kernel_rfl
theorem Tryz.h6 : Tryz.tab.held.reval (fun t => some (Tryz.prog.stoodInHeld t)) = Tryz.tab.held := by kernel_rfl
theorem Tryz.h7 : Tryz.tab.grd.reval (fun t => some (Tryz.prog.eqGuardType Tryz.prog.depth t)) = Tryz.tab.grd := by kernel_rfl
theorem Tryz.h8 : Tryz.tab.fns.reval (fun f => Tryz.prog.funcs[f]?) = Tryz.tab.fns := by kernel_rfl
theorem Tryz.h9 : Tryz.tab.fns.all (fun fn => !(fn.name == "runtime.NumGoroutine")) = true := by kernel_rfl
theorem Tryz.tabOk : TabOK Tryz.prog Tryz.tab := TabOK.of Tryz.h1 Tryz.h2 Tryz.h3 Tryz.h4 Tryz.h5 Tryz.h6 Tryz.h7 Tryz.h8 Tryz.h9
end Go.Proofs

namespace Go.Proofs
open Go Go.Am Go.RowKit
set_option maxRecDepth 100000
variable [Inhabited DrP]
theorem Tryz.fn136 : Tryz.tab.fns.get 136 = some Tryz.f136 := by kernel_rfl
theorem Tryz.n136 : Extern.findNext Tryz.f136 = none := by kernel_rfl
theorem Tryz.e136 : Extern.find Tryz.f136 = some (extFn 4 Tryz.f136) := by kernel_rfl
theorem Tryz.fn244 : Tryz.tab.fns.get 244 = some Tryz.f244 := by kernel_rfl
theorem Tryz.n244 : Extern.findNext Tryz.f244 = none := by kernel_rfl
theorem Tryz.e244 : Extern.find Tryz.f244 = some (extFn 1 Tryz.f244) := by kernel_rfl
theorem Tryz.extOk : ExtTab Tryz.prog Tryz.tab := ExtTab.list [(136, 4), (244, 1)] rfl (by
  intro x hx
  simp only [List.mem_cons, List.not_mem_nil, or_false] at hx
  rcases hx with rfl | rfl
  · exact ⟨_, Tryz.fn136, Tryz.n136, Tryz.e136⟩
  · exact ⟨_, Tryz.fn244, Tryz.n244, Tryz.e244⟩)
theorem Tryz.mix : Tryz.prog.follows .mixedOrders = true := by kernel_rfl
theorem Tryz.prOk : Go.Sy.PrOK Tryz.prog Tryz.tab := ⟨Tryz.tabOk, ext_ok Tryz.tabOk Tryz.extOk, Tryz.mix⟩
end Go.Proofs

namespace Go.Proofs
open Go Go.Am
def F.law26_EvictLimits : FuncId := 6
def F.ref25_Find : FuncId := 18
def F.ref15_Same : FuncId := 24
def F.law26_light : FuncId := 34
def F.law26_awake : FuncId := 35
def F.evict_Left : FuncId := 36
def F.ref25_ByKeys : FuncId := 37
def F.ref26_Check : FuncId := 38
def F.ref14_Over : FuncId := 39
def F.ref25_Domain : FuncId := 40
def F.evict_Gone : FuncId := 41
def F.evict_Shown : FuncId := 42
def F.evict_Check : FuncId := 43
def F.ref26_Rising : FuncId := 44
def F.ref26_Left : FuncId := 45
def F.ref26_Gone : FuncId := 46
def F.ref25_Put : FuncId := 49
def F.view_Without : FuncId := 50
def F.ref25_Without : FuncId := 51
def F.view_Domain : FuncId := 52
def F.ref25_SameTexts : FuncId := 53
def F.view_Domains : FuncId := 54
def F.ref25_Domains : FuncId := 55
def F.cookie_Over : FuncId := 76
def F.view_keep_Item : FuncId := 82
def F.evict_Staler : FuncId := 87
def F.evict_rising : FuncId := 88
def F.slices_Contains_Item : FuncId := 89
def F.evict_cut : FuncId := 90
def F.ref09_Right : FuncId := 91
def F.suffix_Check : FuncId := 93
def F.ref15_Less : FuncId := 94
def F.ref26_stalest : FuncId := 95
def F.match_Less : FuncId := 96
def F.evict_stale : FuncId := 127
def F.slices_Index_Item : FuncId := 128
def F.evict_cut_1 : FuncId := 131
def F.ref09_Rule : FuncId := 132
def F.suffix_parse : FuncId := 133
def F.ref26_Staler : FuncId := 134
def F.match_keys : FuncId := 135
def F.cmp_Compare_int : FuncId := 155
def F.ref09_split : FuncId := 162
def F.ref08_Name : FuncId := 163
def F.ref06_Find : FuncId := 164
def F.strings_HasPrefix : FuncId := 165
def F.host_Labels : FuncId := 166
def F.strings_Compare : FuncId := 167
def F.host_name : FuncId := 173
def F.host_Address : FuncId := 174
def F.ascii_Cut : FuncId := 177
def F.ref08_four : FuncId := 203
def F.ref06_Split : FuncId := 204
def F.ref08_label : FuncId := 205
def F.internal_stringslite_HasPrefix : FuncId := 206
def F.ascii_Split : FuncId := 207
def F.internal_bytealg_CompareString : FuncId := 208
def F.host_label : FuncId := 221
def F.host_four : FuncId := 222
def F.host_bracket : FuncId := 223
def F.ascii_find : FuncId := 225
def F.ref08_Address : FuncId := 228
def F.ref06_Digits : FuncId := 240
def F.ref06_Number : FuncId := 241
def F.ref06_Text : FuncId := 242
def F.ref08_sign : FuncId := 243
def F.host_sign : FuncId := 249
def F.ascii_Number : FuncId := 250
def F.ascii_Digits : FuncId := 251
def F.ref08_bracket : FuncId := 252
def F.ascii_digit : FuncId := 258
def Ty.string : TypeId := 9
def Ty.Item : TypeId := 48
noncomputable abbrev sTab : Tab := Tryz.tab
noncomputable abbrev sProg : Program := Tryz.prog
end Go.Proofs

namespace Go.Proofs
open Go Go.Am Go.RowKit Go.Sy
abbrev Bs := List UInt8
def nB (b : UInt8) : Int := Int.ofNat b.toNat
def encTx (s : Bs) : List SV := [.str s]
def posB (s : Bs) (c : Int) : Option Nat := s.findIdx? (fun b => nB b == c)
def findB (s : Bs) (c : Int) : Int := match posB s c with | some i => (i : Int) | none => -1
def cutB (s : Bs) (c : Int) : Bs × Bs × Bool := match posB s c with | some i => (s.take i, s.drop (i + 1), true) | none => (s, [], false)
def splitB : Bs → Int → List Bs
  | [], _ => [[]]
  | b :: s, c => if nB b = c then [] :: splitB s c else match splitB s c with
    | h :: t => (b :: h) :: t
    | [] => [[b]]
def isDig (b : UInt8) : Bool := decide (48 ≤ nB b) && decide (nB b ≤ 57)
def digsB (s : Bs) : Nat := (s.takeWhile isDig).length
def stepN (n : Int) (b : UInt8) : Int := min (n * 10 + (nB b - 48)) 1099511627776
def negB (s : Bs) : Bool := match s with | b :: _ => nB b == 45 | [] => false
def absN (s : Bs) : Bs := if negB s then s.drop 1 else s
def numB (s : Bs) : Int × Bool := if absN s = [] ∨ digsB (absN s) < (absN s).length then (0, false) else ((if negB s then -1 else 1) * (absN s).foldl stepN 0, true)
def textF : Nat → Nat → Bs
  | 0, _ => []
  | k + 1, n => if n ≤ 9 then [UInt8.ofNat (48 + n)] else textF k (n / 10) ++ [UInt8.ofNat (48 + n % 10)]
def textB (n : Nat) : Bs := textF 40 n
def signB (b : UInt8) : Bool := (decide (97 ≤ nB b) && decide (nB b ≤ 122)) || (decide (48 ≤ nB b) && decide (nB b ≤ 57)) || nB b == 45 || nB b == 95
def signE (c : Int) (e : Bool) : Bool := if c = 45 then !e else (decide (97 ≤ c) && decide (c ≤ 122)) || (decide (48 ≤ c) && decide (c ≤ 57)) || c == 95
def labelB (s : Bs) : Bool := s != [] && decide (s.length ≤ 63) && s.all signB && s.head? != some 45 && s.getLast? != some 45
def partB (p : Bs) : Bool := p != [] && decide (digsB p = p.length) && decide ((numB p).1 ≤ 255) && !(decide (1 < p.length) && p.head? == some 48)
def fourB (s : Bs) : Bool := decide ((splitB s 46).length = 4) && (splitB s 46).all partB
def hexB (b : UInt8) : Bool := (decide (48 ≤ nB b) && decide (nB b ≤ 57)) || (decide (97 ≤ nB b) && decide (nB b ≤ 102)) || nB b == 58 || nB b == 46
def brackB (s : Bs) : Bool := decide (4 ≤ s.length) && decide (s.length ≤ 47) && s.head? == some 91 && s.getLast? == some 93 && ((s.drop 1).take (s.length - 2)).all hexB
def addrB (s : Bs) : Bool := fourB s || brackB s
def nameB (s : Bs) : Bool := decide (s.length ≤ 256) && !fourB s && (splitB s 46).all labelB
def ruleB (s : Bs) : Bs × Bool × Bool := if (s.take 2) = [42, 46] then (s.drop 2, true, false) else if s.take 1 = [33] then (s.drop 1, false, true) else (s, false, false)
def isRule (s : Bs) : Bool := nameB (ruleB s).1 && (!(ruleB s).2.2 || decide (1 < (splitB (ruleB s).1 46).length))

theorem nB_inj {a b : UInt8} (h : nB a = nB b) : a = b := by
  unfold nB at h
  exact UInt8.toNat_inj.1 (Int.ofNat.inj h)
theorem posB_some {s : Bs} {c : Int} {i : Nat} : posB s c = some i ↔ ∃ h : i < s.length, nB s[i] = c ∧ ∀ j (hj : j < i), nB (s[j]'(by omega)) ≠ c := by
  unfold posB
  rw [List.findIdx?_eq_some_iff_getElem]
  constructor
  · rintro ⟨h, h1, h2⟩
    exact ⟨h, by simpa using h1, fun j hj => by simpa using h2 j hj⟩
  · rintro ⟨h, h1, h2⟩
    exact ⟨h, by simpa using h1, fun j hj => by simpa using h2 j hj⟩
theorem posB_none {s : Bs} {c : Int} : posB s c = none ↔ ∀ j (hj : j < s.length), nB s[j] ≠ c := by
  unfold posB
  rw [List.findIdx?_eq_none_iff]
  constructor
  · intro h j hj
    simpa using h s[j] (List.getElem_mem hj)
  · intro h x hx
    obtain ⟨j, hj, rfl⟩ := List.getElem_of_mem hx
    simpa using h j hj
theorem splitB_ne (s : Bs) (c : Int) : splitB s c ≠ [] := by
  cases s with
  | nil => simp [splitB]
  | cons b s =>
    simp only [splitB]
    split
    · simp
    · split <;> simp
theorem splitB_pos (s : Bs) (c : Int) : splitB s c = match posB s c with | some i => s.take i :: splitB (s.drop (i + 1)) c | none => [s] := by
  induction s with
  | nil => simp [splitB, posB]
  | cons b s ih =>
    by_cases hb : nB b = c
    · simp [splitB, posB, List.findIdx?_cons, hb]
    · have h2 : posB (b :: s) c = (posB s c).map (· + 1) := by simp [posB, List.findIdx?_cons, hb]
      simp only [splitB, if_neg hb, h2]
      rw [ih]
      cases hp : posB s c with
      | none => simp
      | some i => simp
theorem splitB_len (s : Bs) (c : Int) : (splitB s c).length ≤ s.length + 1 := by
  induction s with
  | nil => simp [splitB]
  | cons b s ih =>
    simp only [splitB]
    split
    · simp; omega
    · split
      · rename_i h t he
        rw [he] at ih
        simp at ih ⊢; omega
      · simp
theorem splitB_part (s : Bs) (c : Int) : ∀ p ∈ splitB s c, p.length ≤ s.length := by
  induction s with
  | nil => simp [splitB]
  | cons b s ih =>
    intro p hp
    simp only [splitB] at hp
    split at hp
    · rcases List.mem_cons.1 hp with rfl | hp
      · simp
      · have := ih p hp; simp; omega
    · split at hp
      · rename_i h t he
        rw [he] at ih
        rcases List.mem_cons.1 hp with rfl | hp
        · have := ih h List.mem_cons_self; simp; omega
        · have := ih p (List.mem_cons_of_mem _ hp); simp; omega
      · simp at hp; subst hp; simp
theorem digsB_le (s : Bs) : digsB s ≤ s.length := (List.takeWhile_prefix _).length_le
theorem digsB_all {s : Bs} (h : ¬ digsB s < s.length) : ∀ b ∈ s, isDig b = true := by
  have h1 : digsB s = s.length := Nat.le_antisymm (digsB_le s) (Nat.le_of_not_lt h)
  unfold digsB at h1
  have h2 : s.takeWhile isDig = s := List.IsPrefix.eq_of_length (List.takeWhile_prefix _) h1
  intro b hb
  rw [← h2] at hb
  exact List.all_eq_true.1 (List.all_takeWhile ..) b hb
theorem digsB_get {s : Bs} {j : Nat} (hj : j < digsB s) : ∃ h : j < s.length, isDig s[j] = true := by
  induction s generalizing j with
  | nil => simp [digsB] at hj
  | cons b s ih =>
    by_cases hb : isDig b = true
    · have hd : digsB (b :: s) = digsB s + 1 := by simp [digsB, List.takeWhile_cons, hb]
      cases j with
      | zero => exact ⟨by simp, by simpa using hb⟩
      | succ j =>
        obtain ⟨h1, h2⟩ := ih (j := j) (by omega)
        exact ⟨by simpa using h1, by simpa using h2⟩
    · have hd : digsB (b :: s) = 0 := by simp [digsB, List.takeWhile_cons, hb]
      omega
theorem digsB_at {s : Bs} (h : digsB s < s.length) : isDig (s[digsB s]) = false := by
  induction s with
  | nil => simp at h
  | cons b s ih =>
    by_cases hb : isDig b = true
    · have hd : digsB (b :: s) = digsB s + 1 := by simp [digsB, List.takeWhile_cons, hb]
      simp only [hd, List.getElem_cons_succ]
      exact ih (by rw [hd] at h; simpa using h)
    · have hd : digsB (b :: s) = 0 := by simp [digsB, List.takeWhile_cons, hb]
      simp only [hd, List.getElem_cons_zero]
      exact Bool.eq_false_iff.2 hb
theorem isDig_iff (b : UInt8) : isDig b = true ↔ 48 ≤ nB b ∧ nB b ≤ 57 := by simp [isDig]
theorem stepN_range {n : Int} {b : UInt8} (hn : 0 ≤ n) (hb : isDig b = true) : 0 ≤ stepN n b ∧ stepN n b ≤ 1099511627776 := by
  rw [isDig_iff] at hb
  unfold stepN
  omega
theorem foldN_range (s : Bs) (h : ∀ b ∈ s, isDig b = true) : ∀ n : Int, 0 ≤ n → n ≤ 1099511627776 → 0 ≤ s.foldl stepN n ∧ s.foldl stepN n ≤ 1099511627776 := by
  induction s with
  | nil => intro n h1 h2; exact ⟨h1, h2⟩
  | cons b s ih =>
    intro n h1 h2
    have := stepN_range h1 (h b List.mem_cons_self)
    exact ih (fun c hc => h c (List.mem_cons_of_mem _ hc)) _ this.1 this.2
end Go.Proofs

set_option maxRecDepth 100000
namespace Go.Proofs
open Go Go.Am Go.RowKit Go.Sy
variable [Inhabited DrP]
noncomputable def vwS : TypeId → Option View := fun t => bif Nat.beq t Ty.string then some ⟨Bs, encTx⟩ else none
noncomputable def cfgS (con : FuncId → Option Con) (ann : FuncId → Nat → Option Ann) : Cfg := { tab := sTab, view := vwS, con, ann }
def noAnn {Y : Type} : Y → FuncId → Nat → Option Ann := fun _ _ _ => none
def annAt (f r : Nat) (A : Ann) : FuncId → Nat → Option Ann := fun g s => bif Nat.beq g f && Nat.beq s r then some A else none
def i64 (n : Int) : SV := .int .i64 n
def strs (l : List Bs) : SV := .lst Bs l encTx

def cFind : Con := { Y := Bs × Int, pre := fun y => y.1.length ≤ 1000000, args := fun y => [.str y.1, .int .u8 y.2], res := fun y => i64 (findB y.1 y.2) }
def aFind (y : Bs × Int) : Ann := { α := Nat, ok := fun i => i ≤ y.1.length ∧ ∀ j (h : j < y.1.length), j < i → nB y.1[j] ≠ y.2, μ := fun i => y.1.length - i, keep := [], slots := fun i => [(0, .str y.1), (1, .int .u8 y.2), (5, i64 (-1)), (8, i64 (Int.ofNat y.1.length)), (9, i64 i)], objs := fun _ => [] }
def cCut : Con := { Y := Bs × Int, pre := fun y => y.1.length ≤ 1000000, args := fun y => [.str y.1, .int .u8 y.2], res := fun y => .tup [.str (cutB y.1 y.2).1, .str (cutB y.1 y.2).2.1, .bool (cutB y.1 y.2).2.2] }
def cSplit : Con := { Y := Bs × Int, pre := fun y => y.1.length ≤ 100000, args := fun y => [.str y.1, .int .u8 y.2], res := fun y => strs (splitB y.1 y.2) }
def aSplit (y : Bs × Int) : Ann := { α := Bs × List Bs, ok := fun x => splitB y.1 y.2 = x.2 ++ splitB x.1 y.2 ∧ x.2.length + x.1.length ≤ y.1.length, μ := fun x => x.1.length, keep := [], slots := fun x => [(0, .str x.1), (1, .int .u8 y.2), (5, .own 0)], objs := fun x => [(0, .arr Bs x.2 encTx Ty.string)] }
def cDig : Con := { Y := UInt8, pre := fun _ => True, args := fun y => [.int .u8 (nB y)], res := fun y => .bool (isDig y) }
def cDigs : Con := { Y := Bs, pre := fun y => y.length ≤ 1000000, args := fun y => [.str y], res := fun y => i64 (digsB y) }
def aDigs (y : Bs) : Ann := { α := Nat, ok := fun i => i ≤ digsB y, μ := fun i => y.length - i, keep := [], slots := fun i => [(0, .str y), (3, i64 i)], objs := fun _ => [] }
def cNum : Con := { Y := Bs, pre := fun y => y.length ≤ 1000000, args := fun y => [.str y], res := fun y => .tup [i64 (numB y).1, .bool (numB y).2] }
def aNum (y : Bs) : Ann := { α := Nat, ok := fun i => i ≤ (absN y).length ∧ ∀ b ∈ absN y, isDig b = true, μ := fun i => (absN y).length - i, keep := [], slots := fun i => [(4, .str (absN y)), (5, i64 (if negB y then -1 else 1)), (6, i64 (((absN y).take i).foldl stepN 0)), (28, i64 (Int.ofNat (absN y).length)), (29, i64 i)], objs := fun _ => [] }

def aFindR (y : Bs × Int) : Ann := { α := Nat, ok := fun i => i ≤ y.1.length ∧ ∀ j (h : j < y.1.length), j < i → nB y.1[j] ≠ y.2, μ := fun i => y.1.length - i, keep := [], slots := fun i => [(0, .str y.1), (1, .int .u8 y.2), (5, i64 i)], objs := fun _ => [] }
def aSplitR (y : Bs × Int) : Ann := { α := Nat × Nat × List Bs, ok := fun x => x.1 ≤ x.2.1 ∧ x.2.1 ≤ y.1.length ∧ splitB y.1 y.2 = x.2.2 ++ splitB (y.1.drop x.1) y.2 ∧ x.2.2.length ≤ x.1 ∧ ∀ j (h : j < y.1.length), x.1 ≤ j → j < x.2.1 → nB y.1[j] ≠ y.2, μ := fun x => y.1.length - x.2.1, keep := [], slots := fun x => [(0, .str y.1), (1, .int .u8 y.2), (5, .own 0), (6, i64 x.1), (7, i64 x.2.1)], objs := fun x => [(0, .arr Bs x.2.2 encTx Ty.string)] }
def aDigsR (y : Bs) : Ann := { α := Nat, ok := fun i => i ≤ y.length, μ := fun i => y.length - i, keep := [], slots := fun i => [(0, .str y), (3, i64 (Int.ofNat (min i (digsB y)))), (4, i64 i)], objs := fun _ => [] }
def fromN (y : Bs) : Nat := if negB y then 1 else 0
def aNumR (y : Bs) : Ann := { α := Nat, ok := fun i => fromN y ≤ i ∧ i ≤ y.length ∧ ∀ b ∈ absN y, isDig b = true, μ := fun i => y.length - i, keep := [], slots := fun i => [(0, .str y), (4, i64 (Int.ofNat (fromN y))), (5, i64 (((absN y).take (i - fromN y)).foldl stepN 0)), (6, i64 i)], objs := fun _ => [] }
def cText : Con := { Y := Nat, pre := fun y => y ≤ 1099511627776, args := fun y => [i64 y], res := fun y => .str (textB y) }
def aText (y : Nat) : Ann := { α := Nat × Nat × Bs, ok := fun x => x.1 ≤ 30 ∧ x.2.2.length ≤ 30 ∧ textB y = textF (10 + x.1) x.2.1 ++ x.2.2 ∧ x.2.2.length + x.1 ≤ 30 ∧ x.2.1 < 10 ^ (x.1 + 1) ∧ x.2.1 ≤ y, μ := fun x => x.2.1, keep := [], slots := fun x => [(0, i64 x.2.1), (3, .str x.2.2)], objs := fun _ => [] }

noncomputable def conA1 (f : FuncId) : Option Con := bif Nat.beq f F.ascii_find then some cFind else none
noncomputable def conA2 (f : FuncId) : Option Con := bif Nat.beq f F.ascii_Cut then some cCut else conA1 f
noncomputable def conA3 (f : FuncId) : Option Con := bif Nat.beq f F.ascii_Split then some cSplit else bif Nat.beq f F.ascii_digit then some cDig else conA2 f
noncomputable def conA4 (f : FuncId) : Option Con := bif Nat.beq f F.ascii_Digits then some cDigs else bif Nat.beq f F.ref06_Digits then some cDigs else conA3 f
noncomputable def conA5 (f : FuncId) : Option Con := bif Nat.beq f F.ascii_Number then some cNum else bif Nat.beq f F.ref06_Number then some cNum else bif Nat.beq f F.ref06_Find then some cFind else bif Nat.beq f F.ref06_Split then some cSplit else bif Nat.beq f F.ref06_Text then some cText else conA4 f
noncomputable def con0 (_ : FuncId) : Option Con := none
end Go.Proofs

set_option maxRecDepth 100000
set_option maxHeartbeats 4000000
namespace Go.Proofs
open Go Go.Am Go.RowKit Go.Sy
variable [Inhabited DrP]
theorem vcFind : (askY (fun (y : Con.Y cFind) => cfgS con0 (annAt F.ascii_find 3 (aFind y))) 400 F.ascii_find) = (∀ (y : Bs × Int),
 y.1.length ≤ 1000000 →
 (∃ (x : Nat),
 (x ≤ y.1.length ∧ ∀ (j : Nat) (h : j < y.1.length), j < x → eqI (nB y.1[j]) y.2 → False) ∧
 (y.1 = y.1 ∧
 eqI y.2 y.2 ∧
 eqI (-1) (-1) ∧ eqI (Int.ofNat y.1.length) (Int.ofNat y.1.length) ∧ eqI 0 ↑x ∧ True) ∧
 True ∧ True) ∧
 ∀ (x : Nat),
 (x ≤ y.1.length ∧ ∀ (j : Nat) (h : j < y.1.length), j < x → eqI (nB y.1[j]) y.2 → False) →
 br (ltI (↑x) (Int.ofNat y.1.length))
 (so y.1[Int.toNat ↑x]? fun (val : UInt8) =>
 br (Int.ofNat (UInt8.toNat val) == y.2) (eqI (↑x) (findB y.1 y.2) ∧ True)
 (ck (inR Go.IntKind.i64 (↑x + 1))
 (∃ (y_1 : Nat),
 (y_1 ≤ y.1.length ∧ ∀ (j : Nat) (h : j < y.1.length), j < y_1 → eqI (nB y.1[j]) y.2 → False) ∧
 Ann.μ (aFind y) y_1 < Ann.μ (aFind y) x ∧
 (y.1 = y.1 ∧
 eqI y.2 y.2 ∧
 eqI (-1) (-1) ∧ eqI (Int.ofNat y.1.length) (Int.ofNat y.1.length) ∧ eqI (↑x + 1) ↑y_1 ∧ True) ∧
 True ∧ True)))
 (eqI (-1) (findB y.1 y.2) ∧ True)) := by kernel_rfl
theorem vcCut : (askY (fun (y : Con.Y cCut) => cfgS conA1 (noAnn y)) 400 F.ascii_Cut) = (∀ (y : Bs × Int),
 y.1.length ≤ 1000000 →
 ∃ (y_1 : Bs × Int),
 y.1 = y_1.1 ∧
 eqI y.2 y_1.2 ∧
 y_1.1.length ≤ 1000000 ∧
 br (ltI (findB y_1.1 y_1.2) 0)
 (y.1 = Prod.fst (cutB y.1 y.2) ∧
 Array.toList (ByteArray.data { data := #[] }) = Prod.fst (Prod.snd (cutB y.1 y.2)) ∧
 Bool.false = Prod.snd (Prod.snd (cutB y.1 y.2)) ∧ True)
 (ck (nn (findB y_1.1 y_1.2))
 (ck (Nat.ble (Int.toNat (findB y_1.1 y_1.2)) y.1.length)
 (ck (inR Go.IntKind.i64 (findB y_1.1 y_1.2 + 1))
 (ck (nn (findB y_1.1 y_1.2 + 1))
 (ck (Nat.ble (Int.toNat (findB y_1.1 y_1.2 + 1)) y.1.length)
 (List.take (Int.toNat (findB y_1.1 y_1.2)) y.1 = Prod.fst (cutB y.1 y.2) ∧
 List.drop (Int.toNat (findB y_1.1 y_1.2 + 1)) y.1 = Prod.fst (Prod.snd (cutB y.1 y.2)) ∧
 Bool.true = Prod.snd (Prod.snd (cutB y.1 y.2)) ∧ True))))))) := by kernel_rfl
theorem vcSplit : (askY (fun (y : Con.Y cSplit) => cfgS conA2 (annAt F.ascii_Split 2 (aSplit y))) 400 F.ascii_Split) = (∀ (y : Bs × Int),
 y.1.length ≤ 100000 →
 (∃ (x : Bs × List Bs),
 (splitB y.1 y.2 = x.2 ++ splitB x.1 y.2 ∧
 x.2.length + x.1.length ≤ y.1.length) ∧
 (y.1 = x.1 ∧ eqI y.2 y.2 ∧ True ∧ True) ∧
 ((x.2 = [] ∧ ∀ (x : Bs), List.length (encTx x) = 1) ∧ True) ∧ True) ∧
 ∀ (x : Bs × List Bs),
 splitB y.1 y.2 = x.2 ++ splitB x.1 y.2 ∧
 x.2.length + x.1.length ≤ y.1.length →
 ∃ (y_1 : Bs × Int),
 x.1 = y_1.1 ∧
 eqI y.2 y_1.2 ∧
 y_1.1.length ≤ 1000000 ∧
 ∃ (x_1 : Bs),
 [SV.str x_1] = [SV.str (Prod.fst (cutB y_1.1 y_1.2))] ∧
 ck (Nat.ble ((x.2.length + List.length [x_1]) * 16) 16777216 && Nat.ble (x.2.length + List.length [x_1]) 16777216)
 (br (!Prod.snd (Prod.snd (cutB y_1.1 y_1.2)))
 (SV.lst Bs (x.2 ++ [x_1]) encTx = SV.lst Bs (splitB y.1 y.2) encTx ∧
 True)
 (∃ (y_2 : Bs × List Bs),
 (splitB y.1 y.2 = y_2.2 ++ splitB y_2.1 y.2 ∧
 y_2.2.length + y_2.1.length ≤ y.1.length) ∧
 Ann.μ (aSplit y) y_2 < Ann.μ (aSplit y) x ∧
 (Prod.fst (Prod.snd (cutB y_1.1 y_1.2)) = y_2.1 ∧ eqI y.2 y.2 ∧ True ∧ True) ∧
 (SV.lst Bs (x.2 ++ [x_1]) encTx = SV.lst Bs y_2.2 encTx ∧ True) ∧ True))) := by kernel_rfl
theorem vcDig : (askY (fun (y : Con.Y cDig) => cfgS con0 (noAnn y)) 400 F.ascii_digit) = (∀ (y : UInt8), True → br (leI 48 (nB y)) (leI (nB y) 57 = isDig y ∧ True) (Bool.false = isDig y ∧ True)) := by kernel_rfl
theorem vcDigs : (askY (fun (y : Con.Y cDigs) => cfgS conA3 (annAt F.ascii_Digits 2 (aDigs y))) 400 F.ascii_Digits) = (∀ (y : List UInt8),
 y.length ≤ 1000000 →
 (∃ (x : Nat), x ≤ digsB y ∧ (y = y ∧ eqI 0 ↑x ∧ True) ∧ True ∧ True) ∧
 ∀ (x : Nat),
 x ≤ digsB y →
 br (ltI (↑x) (Int.ofNat y.length))
 (so y[Int.toNat ↑x]? fun (val : UInt8) =>
 ∃ (y_1 : UInt8),
 eqI (Int.ofNat (UInt8.toNat val)) (nB y_1) ∧
 True ∧
 br (isDig y_1)
 (ck (inR Go.IntKind.i64 (↑x + 1))
 (∃ (y_2 : Nat),
 y_2 ≤ digsB y ∧
 Ann.μ (aDigs y) y_2 < Ann.μ (aDigs y) x ∧ (y = y ∧ eqI (↑x + 1) ↑y_2 ∧ True) ∧ True ∧ True))
 (eqI ↑x ↑(digsB y) ∧ True))
 (eqI ↑x ↑(digsB y) ∧ True)) := by kernel_rfl
theorem vcNum : (askY (fun (y : Con.Y cNum) => cfgS conA4 (annAt F.ascii_Number 8 (aNum y))) 400 F.ascii_Number) = (∀ (y : List UInt8),
 y.length ≤ 1000000 →
 br (!y == Array.toList (ByteArray.data { data := #[] }))
 (so y[Int.toNat 0]? fun (val : UInt8) =>
 br (Int.ofNat (UInt8.toNat val) == 45)
 (ck (Nat.ble (Int.toNat 1) y.length)
 (br (List.drop (Int.toNat 1) y == Array.toList (ByteArray.data { data := #[] }))
 (eqI 0 (Prod.fst (numB y)) ∧ Bool.false = Prod.snd (numB y) ∧ True)
 (∃ (y_1 : List UInt8),
 List.drop (Int.toNat 1) y = y_1 ∧
 y_1.length ≤ 1000000 ∧
 br (ltI (↑(digsB y_1)) (Int.ofNat (List.length (List.drop (Int.toNat 1) y))))
 (eqI 0 (Prod.fst (numB y)) ∧ Bool.false = Prod.snd (numB y) ∧ True)
 ((∃ (x : Nat),
 (x ≤ List.length (absN y) ∧ ∀ (b : UInt8), b ∈ absN y → isDig b = Bool.true) ∧
 (List.drop (Int.toNat 1) y = absN y ∧
 eqI (-1) (if negB y = Bool.true then -1 else 1) ∧
 eqI 0 (List.foldl stepN 0 (List.take x (absN y))) ∧
 eqI (Int.ofNat (List.length (List.drop (Int.toNat 1) y))) (Int.ofNat (List.length (absN y))) ∧ eqI 0 ↑x ∧ True) ∧
 True ∧ True) ∧
 ∀ (x : Nat),
 (x ≤ List.length (absN y) ∧ ∀ (b : UInt8), b ∈ absN y → isDig b = Bool.true) →
 br (ltI (↑x) (Int.ofNat (List.length (absN y))))
 (ck (inR Go.IntKind.i64 (List.foldl stepN 0 (List.take x (absN y)) * 10))
 (so (absN y)[Int.toNat ↑x]? fun (val : UInt8) =>
 ck
 (inR Go.IntKind.i64
 (List.foldl stepN 0 (List.take x (absN y)) * 10 +
 Go.IntKind.wrap Go.IntKind.i64 (Go.IntKind.wrap Go.IntKind.u8 (Int.ofNat (UInt8.toNat val) - 48))))
 (ck (inR Go.IntKind.i64 (↑x + 1))
 (∃ (y_2 : Nat),
 (y_2 ≤ List.length (absN y) ∧ ∀ (b : UInt8), b ∈ absN y → isDig b = Bool.true) ∧
 Ann.μ (aNum y) y_2 < Ann.μ (aNum y) x ∧
 (absN y = absN y ∧
 eqI (if negB y = Bool.true then -1 else 1) (if negB y = Bool.true then -1 else 1) ∧
 eqI
 (if
 1099511627776 <
 List.foldl stepN 0 (List.take x (absN y)) * 10 +
 Go.IntKind.wrap Go.IntKind.i64 (Go.IntKind.wrap Go.IntKind.u8 (Int.ofNat (UInt8.toNat val) - 48)) then
 1099511627776
 else
 List.foldl stepN 0 (List.take x (absN y)) * 10 +
 Go.IntKind.wrap Go.IntKind.i64 (Go.IntKind.wrap Go.IntKind.u8 (Int.ofNat (UInt8.toNat val) - 48)))
 (List.foldl stepN 0 (List.take y_2 (absN y))) ∧
 eqI (Int.ofNat (List.length (absN y))) (Int.ofNat (List.length (absN y))) ∧
 eqI (↑x + 1) ↑y_2 ∧ True) ∧
 True ∧ True))))
 (ck
 (inR Go.IntKind.i64 ((if negB y = Bool.true then -1 else 1) * List.foldl stepN 0 (List.take x (absN y))))
 (eqI ((if negB y = Bool.true then -1 else 1) * List.foldl stepN 0 (List.take x (absN y)))
 (Prod.fst (numB y)) ∧
 Bool.true = Prod.snd (numB y) ∧ True))))))
 (br (y == Array.toList (ByteArray.data { data := #[] })) (eqI 0 (Prod.fst (numB y)) ∧ Bool.false = Prod.snd (numB y) ∧ True)
 (∃ (y_1 : List UInt8),
 y = y_1 ∧
 y_1.length ≤ 1000000 ∧
 br (ltI (↑(digsB y_1)) (Int.ofNat y.length))
 (eqI 0 (Prod.fst (numB y)) ∧ Bool.false = Prod.snd (numB y) ∧ True)
 ((∃ (x : Nat),
 (x ≤ List.length (absN y) ∧ ∀ (b : UInt8), b ∈ absN y → isDig b = Bool.true) ∧
 (y = absN y ∧
 eqI 1 (if negB y = Bool.true then -1 else 1) ∧
 eqI 0 (List.foldl stepN 0 (List.take x (absN y))) ∧
 eqI (Int.ofNat y.length) (Int.ofNat (List.length (absN y))) ∧ eqI 0 ↑x ∧ True) ∧
 True ∧ True) ∧
 ∀ (x : Nat),
 (x ≤ List.length (absN y) ∧ ∀ (b : UInt8), b ∈ absN y → isDig b = Bool.true) →
 br (ltI (↑x) (Int.ofNat (List.length (absN y))))
 (ck (inR Go.IntKind.i64 (List.foldl stepN 0 (List.take x (absN y)) * 10))
 (so (absN y)[Int.toNat ↑x]? fun (val : UInt8) =>
 ck
 (inR Go.IntKind.i64
 (List.foldl stepN 0 (List.take x (absN y)) * 10 +
 Go.IntKind.wrap Go.IntKind.i64 (Go.IntKind.wrap Go.IntKind.u8 (Int.ofNat (UInt8.toNat val) - 48))))
 (ck (inR Go.IntKind.i64 (↑x + 1))
 (∃ (y_2 : Nat),
 (y_2 ≤ List.length (absN y) ∧ ∀ (b : UInt8), b ∈ absN y → isDig b = Bool.true) ∧
 Ann.μ (aNum y) y_2 < Ann.μ (aNum y) x ∧
 (absN y = absN y ∧
 eqI (if negB y = Bool.true then -1 else 1) (if negB y = Bool.true then -1 else 1) ∧
 eqI
 (if
 1099511627776 <
 List.foldl stepN 0 (List.take x (absN y)) * 10 +
 Go.IntKind.wrap Go.IntKind.i64 (Go.IntKind.wrap Go.IntKind.u8 (Int.ofNat (UInt8.toNat val) - 48)) then
 1099511627776
 else
 List.foldl stepN 0 (List.take x (absN y)) * 10 +
 Go.IntKind.wrap Go.IntKind.i64 (Go.IntKind.wrap Go.IntKind.u8 (Int.ofNat (UInt8.toNat val) - 48)))
 (List.foldl stepN 0 (List.take y_2 (absN y))) ∧
 eqI (Int.ofNat (List.length (absN y))) (Int.ofNat (List.length (absN y))) ∧
 eqI (↑x + 1) ↑y_2 ∧ True) ∧
 True ∧ True))))
 (ck (inR Go.IntKind.i64 ((if negB y = Bool.true then -1 else 1) * List.foldl stepN 0 (List.take x (absN y))))
 (eqI ((if negB y = Bool.true then -1 else 1) * List.foldl stepN 0 (List.take x (absN y)))
 (Prod.fst (numB y)) ∧
 Bool.true = Prod.snd (numB y) ∧ True))))))
 (br (y == Array.toList (ByteArray.data { data := #[] })) (eqI 0 (Prod.fst (numB y)) ∧ Bool.false = Prod.snd (numB y) ∧ True)
 (∃ (y_1 : List UInt8),
 y = y_1 ∧
 y_1.length ≤ 1000000 ∧
 br (ltI (↑(digsB y_1)) (Int.ofNat y.length))
 (eqI 0 (Prod.fst (numB y)) ∧ Bool.false = Prod.snd (numB y) ∧ True)
 ((∃ (x : Nat),
 (x ≤ List.length (absN y) ∧ ∀ (b : UInt8), b ∈ absN y → isDig b = Bool.true) ∧
 (y = absN y ∧
 eqI 1 (if negB y = Bool.true then -1 else 1) ∧
 eqI 0 (List.foldl stepN 0 (List.take x (absN y))) ∧
 eqI (Int.ofNat y.length) (Int.ofNat (List.length (absN y))) ∧ eqI 0 ↑x ∧ True) ∧
 True ∧ True) ∧
 ∀ (x : Nat),
 (x ≤ List.length (absN y) ∧ ∀ (b : UInt8), b ∈ absN y → isDig b = Bool.true) →
 br (ltI (↑x) (Int.ofNat (List.length (absN y))))
 (ck (inR Go.IntKind.i64 (List.foldl stepN 0 (List.take x (absN y)) * 10))
 (so (absN y)[Int.toNat ↑x]? fun (val : UInt8) =>
 ck
 (inR Go.IntKind.i64
 (List.foldl stepN 0 (List.take x (absN y)) * 10 +
 Go.IntKind.wrap Go.IntKind.i64 (Go.IntKind.wrap Go.IntKind.u8 (Int.ofNat (UInt8.toNat val) - 48))))
 (ck (inR Go.IntKind.i64 (↑x + 1))
 (∃ (y_2 : Nat),
 (y_2 ≤ List.length (absN y) ∧ ∀ (b : UInt8), b ∈ absN y → isDig b = Bool.true) ∧
 Ann.μ (aNum y) y_2 < Ann.μ (aNum y) x ∧
 (absN y = absN y ∧
 eqI (if negB y = Bool.true then -1 else 1) (if negB y = Bool.true then -1 else 1) ∧
 eqI
 (if
 1099511627776 <
 List.foldl stepN 0 (List.take x (absN y)) * 10 +
 Go.IntKind.wrap Go.IntKind.i64 (Go.IntKind.wrap Go.IntKind.u8 (Int.ofNat (UInt8.toNat val) - 48)) then
 1099511627776
 else
 List.foldl stepN 0 (List.take x (absN y)) * 10 +
 Go.IntKind.wrap Go.IntKind.i64 (Go.IntKind.wrap Go.IntKind.u8 (Int.ofNat (UInt8.toNat val) - 48)))
 (List.foldl stepN 0 (List.take y_2 (absN y))) ∧
 eqI (Int.ofNat (List.length (absN y))) (Int.ofNat (List.length (absN y))) ∧
 eqI (↑x + 1) ↑y_2 ∧ True) ∧
 True ∧ True))))
 (ck (inR Go.IntKind.i64 ((if negB y = Bool.true then -1 else 1) * List.foldl stepN 0 (List.take x (absN y))))
 (eqI ((if negB y = Bool.true then -1 else 1) * List.foldl stepN 0 (List.take x (absN y)))
 (Prod.fst (numB y)) ∧
 Bool.true = Prod.snd (numB y) ∧ True)))))) := by kernel_rfl
theorem vcFindR : (askY (fun (y : Con.Y cFind) => cfgS con0 (annAt F.ref06_Find 2 (aFindR y))) 400 F.ref06_Find) = (∀ (y : Bs × Int),
 y.1.length ≤ 1000000 →
 (∃ (x : Nat),
 (x ≤ y.1.length ∧ ∀ (j : Nat) (h : j < y.1.length), j < x → eqI (nB y.1[j]) y.2 → False) ∧
 (y.1 = y.1 ∧ eqI y.2 y.2 ∧ eqI 0 ↑x ∧ True) ∧ True ∧ True) ∧
 ∀ (x : Nat),
 (x ≤ y.1.length ∧ ∀ (j : Nat) (h : j < y.1.length), j < x → eqI (nB y.1[j]) y.2 → False) →
 br (ltI (↑x) (Int.ofNat y.1.length))
 (so y.1[Int.toNat ↑x]? fun (val : UInt8) =>
 br (Int.ofNat (UInt8.toNat val) == y.2) (eqI (↑x) (findB y.1 y.2) ∧ True)
 (ck (inR Go.IntKind.i64 (↑x + 1))
 (∃ (y_1 : Nat),
 (y_1 ≤ y.1.length ∧ ∀ (j : Nat) (h : j < y.1.length), j < y_1 → eqI (nB y.1[j]) y.2 → False) ∧
 Ann.μ (aFindR y) y_1 < Ann.μ (aFindR y) x ∧
 (y.1 = y.1 ∧ eqI y.2 y.2 ∧ eqI (↑x + 1) ↑y_1 ∧ True) ∧ True ∧ True)))
 (eqI (-1) (findB y.1 y.2) ∧ True)) := by kernel_rfl
theorem vcSplitR : (askY (fun (y : Con.Y cSplit) => cfgS con0 (annAt F.ref06_Split 4 (aSplitR y))) 400 F.ref06_Split) = (∀ (y : Bs × Int),
 y.1.length ≤ 100000 →
 (∃ (x : Nat × Nat × List Bs),
 (x.1 ≤ x.2.1 ∧
 x.2.1 ≤ y.1.length ∧
 splitB y.1 y.2 = x.2.2 ++ splitB (List.drop x.1 y.1) y.2 ∧
 x.2.2.length ≤ x.1 ∧
 ∀ (j : Nat) (h : j < y.1.length), x.1 ≤ j → j < x.2.1 → eqI (nB y.1[j]) y.2 → False) ∧
 (y.1 = y.1 ∧ eqI y.2 y.2 ∧ True ∧ eqI 0 ↑x.1 ∧ eqI 0 ↑x.2.1 ∧ True) ∧
 (SV.lst (View.X { X := Bs, enc := encTx }) [] (View.enc { X := Bs, enc := encTx }) =
 SV.lst Bs x.2.2 encTx ∧
 True) ∧
 True) ∧
 ∀ (x : Nat × Nat × List Bs),
 (x.1 ≤ x.2.1 ∧
 x.2.1 ≤ y.1.length ∧
 splitB y.1 y.2 = x.2.2 ++ splitB (List.drop x.1 y.1) y.2 ∧
 x.2.2.length ≤ x.1 ∧
 ∀ (j : Nat) (h : j < y.1.length), x.1 ≤ j → j < x.2.1 → eqI (nB y.1[j]) y.2 → False) →
 br (ltI (↑x.2.1) (Int.ofNat y.1.length))
 (so y.1[Int.toNat ↑x.2.1]? fun (val : UInt8) =>
 br (Int.ofNat (UInt8.toNat val) == y.2)
 (ck (Nat.ble (Int.toNat ↑x.1) (Int.toNat ↑x.2.1) && Nat.ble (Int.toNat ↑x.2.1) y.1.length)
 (∃ (x_1 : Bs),
 [SV.str x_1] =
 [SV.str (List.take (Int.toNat ↑x.2.1 - Int.toNat ↑x.1) (List.drop (Int.toNat ↑x.1) y.1))] ∧
 ck
 (Nat.ble ((x.2.2.length + List.length [x_1]) * 16) 16777216 &&
 Nat.ble (x.2.2.length + List.length [x_1]) 16777216)
 (ck (inR Go.IntKind.i64 (↑x.2.1 + 1))
 (ck (inR Go.IntKind.i64 (↑x.2.1 + 1))
 (∃ (y_1 : Nat × Nat × List Bs),
 (y_1.1 ≤ y_1.2.1 ∧
 y_1.2.1 ≤ y.1.length ∧
 splitB y.1 y.2 = y_1.2.2 ++ splitB (List.drop y_1.1 y.1) y.2 ∧
 y_1.2.2.length ≤ y_1.1 ∧
 ∀ (j : Nat) (h : j < y.1.length),
 y_1.1 ≤ j → j < y_1.2.1 → eqI (nB y.1[j]) y.2 → False) ∧
 Ann.μ (aSplitR y) y_1 < Ann.μ (aSplitR y) x ∧
 (y.1 = y.1 ∧
 eqI y.2 y.2 ∧
 True ∧
 eqI (↑x.2.1 + 1) ↑y_1.1 ∧ eqI (↑x.2.1 + 1) ↑y_1.2.1 ∧ True) ∧
 (SV.lst Bs (x.2.2 ++ [x_1]) encTx =
 SV.lst Bs y_1.2.2 encTx ∧
 True) ∧
 True)))))
 (ck (inR Go.IntKind.i64 (↑x.2.1 + 1))
 (∃ (y_1 : Nat × Nat × List Bs),
 (y_1.1 ≤ y_1.2.1 ∧
 y_1.2.1 ≤ y.1.length ∧
 splitB y.1 y.2 = y_1.2.2 ++ splitB (List.drop y_1.1 y.1) y.2 ∧
 y_1.2.2.length ≤ y_1.1 ∧
 ∀ (j : Nat) (h : j < y.1.length),
 y_1.1 ≤ j → j < y_1.2.1 → eqI (nB y.1[j]) y.2 → False) ∧
 Ann.μ (aSplitR y) y_1 < Ann.μ (aSplitR y) x ∧
 (y.1 = y.1 ∧
 eqI y.2 y.2 ∧
 True ∧ eqI ↑x.1 ↑y_1.1 ∧ eqI (↑x.2.1 + 1) ↑y_1.2.1 ∧ True) ∧
 (SV.lst Bs x.2.2 encTx = SV.lst Bs y_1.2.2 encTx ∧ True) ∧ True)))
 (ck (Nat.ble (Int.toNat ↑x.1) y.1.length)
 (∃ (x_1 : Bs),
 [SV.str x_1] = [SV.str (List.drop (Int.toNat ↑x.1) y.1)] ∧
 ck
 (Nat.ble ((x.2.2.length + List.length [x_1]) * 16) 16777216 &&
 Nat.ble (x.2.2.length + List.length [x_1]) 16777216)
 (SV.lst Bs (x.2.2 ++ [x_1]) encTx =
 SV.lst Bs (splitB y.1 y.2) encTx ∧
 True)))) := by kernel_rfl
theorem vcDigsR : (askY (fun (y : Con.Y cDigs) => cfgS con0 (annAt F.ref06_Digits 3 (aDigsR y))) 400 F.ref06_Digits) = (∀ (y : List UInt8),
 y.length ≤ 1000000 →
 (∃ (x : Nat), x ≤ y.length ∧ (y = y ∧ eqI 0 (Int.ofNat (Min.min x (digsB y))) ∧ eqI 0 ↑x ∧ True) ∧ True ∧ True) ∧
 ∀ (x : Nat),
 x ≤ y.length →
 br (ltI (↑x) (Int.ofNat y.length))
 (br (Int.ofNat (Min.min x (digsB y)) == ↑x)
 (so y[Int.toNat ↑x]? fun (val : UInt8) =>
 br (leI 48 (Int.ofNat (UInt8.toNat val)))
 (so y[Int.toNat ↑x]? fun (val : UInt8) =>
 br (leI (Int.ofNat (UInt8.toNat val)) 57)
 (ck (inR Go.IntKind.i64 (Int.ofNat (Min.min x (digsB y)) + 1))
 (ck (inR Go.IntKind.i64 (↑x + 1))
 (∃ (y_1 : Nat),
 y_1 ≤ y.length ∧
 Ann.μ (aDigsR y) y_1 < Ann.μ (aDigsR y) x ∧
 (y = y ∧ eqI (Int.ofNat (Min.min x (digsB y)) + 1) (Int.ofNat (Min.min y_1 (digsB y))) ∧ eqI (↑x + 1) ↑y_1 ∧ True) ∧
 True ∧ True)))
 (ck (inR Go.IntKind.i64 (↑x + 1))
 (∃ (y_1 : Nat),
 y_1 ≤ y.length ∧
 Ann.μ (aDigsR y) y_1 < Ann.μ (aDigsR y) x ∧
 (y = y ∧ eqI (Int.ofNat (Min.min x (digsB y))) (Int.ofNat (Min.min y_1 (digsB y))) ∧ eqI (↑x + 1) ↑y_1 ∧ True) ∧
 True ∧ True)))
 (ck (inR Go.IntKind.i64 (↑x + 1))
 (∃ (y_1 : Nat),
 y_1 ≤ y.length ∧
 Ann.μ (aDigsR y) y_1 < Ann.μ (aDigsR y) x ∧
 (y = y ∧ eqI (Int.ofNat (Min.min x (digsB y))) (Int.ofNat (Min.min y_1 (digsB y))) ∧ eqI (↑x + 1) ↑y_1 ∧ True) ∧
 True ∧ True)))
 (ck (inR Go.IntKind.i64 (↑x + 1))
 (∃ (y_1 : Nat),
 y_1 ≤ y.length ∧
 Ann.μ (aDigsR y) y_1 < Ann.μ (aDigsR y) x ∧
 (y = y ∧ eqI (Int.ofNat (Min.min x (digsB y))) (Int.ofNat (Min.min y_1 (digsB y))) ∧ eqI (↑x + 1) ↑y_1 ∧ True) ∧
 True ∧ True)))
 (eqI (Int.ofNat (Min.min x (digsB y))) ↑(digsB y) ∧ True)) := by kernel_rfl
theorem vcNumR : (askY (fun (y : Con.Y cNum) => cfgS conA4 (annAt F.ref06_Number 8 (aNumR y))) 400 F.ref06_Number) = (∀ (y : List UInt8),
 y.length ≤ 1000000 →
 br (ltI 0 (Int.ofNat y.length))
 (so y[Int.toNat 0]? fun (val : UInt8) =>
 br (Int.ofNat (UInt8.toNat val) == 45)
 (br (Int.ofNat y.length == 1) (eqI 0 (Prod.fst (numB y)) ∧ Bool.false = Prod.snd (numB y) ∧ True)
 (ck (Nat.ble (Int.toNat 1) y.length)
 (∃ (y_1 : List UInt8),
 List.drop (Int.toNat 1) y = y_1 ∧
 y_1.length ≤ 1000000 ∧
 ck (inR Go.IntKind.i64 (Int.ofNat y.length - 1))
 (br (ltI (↑(digsB y_1)) (Int.ofNat y.length - 1))
 (eqI 0 (Prod.fst (numB y)) ∧ Bool.false = Prod.snd (numB y) ∧ True)
 ((∃ (x : Nat),
 (fromN y ≤ x ∧ x ≤ y.length ∧ ∀ (b : UInt8), b ∈ absN y → isDig b = Bool.true) ∧
 (y = y ∧
 eqI 1 (Int.ofNat (fromN y)) ∧
 eqI 0 (List.foldl stepN 0 (List.take (x - fromN y) (absN y))) ∧ eqI 1 ↑x ∧ True) ∧
 True ∧ True) ∧
 ∀ (x : Nat),
 (fromN y ≤ x ∧ x ≤ y.length ∧ ∀ (b : UInt8), b ∈ absN y → isDig b = Bool.true) →
 br (ltI (↑x) (Int.ofNat y.length))
 (ck (inR Go.IntKind.i64 (List.foldl stepN 0 (List.take (x - fromN y) (absN y)) * 10))
 (so y[Int.toNat ↑x]? fun (val : UInt8) =>
 ck
 (inR Go.IntKind.i64
 (List.foldl stepN 0 (List.take (x - fromN y) (absN y)) * 10 +
 Go.IntKind.wrap Go.IntKind.i64 (Int.ofNat (UInt8.toNat val))))
 (ck
 (inR Go.IntKind.i64
 (List.foldl stepN 0 (List.take (x - fromN y) (absN y)) * 10 +
 Go.IntKind.wrap Go.IntKind.i64 (Int.ofNat (UInt8.toNat val)) -
 48))
 (br
 (ltI 1099511627776
 (List.foldl stepN 0 (List.take (x - fromN y) (absN y)) * 10 +
 Go.IntKind.wrap Go.IntKind.i64 (Int.ofNat (UInt8.toNat val)) -
 48))
 (ck (inR Go.IntKind.i64 (↑x + 1))
 (∃ (y_2 : Nat),
 (fromN y ≤ y_2 ∧ y_2 ≤ y.length ∧ ∀ (b : UInt8), b ∈ absN y → isDig b = Bool.true) ∧
 Ann.μ (aNumR y) y_2 < Ann.μ (aNumR y) x ∧
 (y = y ∧
 eqI (Int.ofNat (fromN y)) (Int.ofNat (fromN y)) ∧
 eqI 1099511627776 (List.foldl stepN 0 (List.take (y_2 - fromN y) (absN y))) ∧
 eqI (↑x + 1) ↑y_2 ∧ True) ∧
 True ∧ True))
 (ck (inR Go.IntKind.i64 (↑x + 1))
 (∃ (y_2 : Nat),
 (fromN y ≤ y_2 ∧ y_2 ≤ y.length ∧ ∀ (b : UInt8), b ∈ absN y → isDig b = Bool.true) ∧
 Ann.μ (aNumR y) y_2 < Ann.μ (aNumR y) x ∧
 (y = y ∧
 eqI (Int.ofNat (fromN y)) (Int.ofNat (fromN y)) ∧
 eqI
 (List.foldl stepN 0 (List.take (x - fromN y) (absN y)) * 10 +
 Go.IntKind.wrap Go.IntKind.i64 (Int.ofNat (UInt8.toNat val)) -
 48)
 (List.foldl stepN 0 (List.take (y_2 - fromN y) (absN y))) ∧
 eqI (↑x + 1) ↑y_2 ∧ True) ∧
 True ∧ True))))))
 (br (Int.ofNat (fromN y) == 1)
 (ck (inR Go.IntKind.i64 (0 - List.foldl stepN 0 (List.take (x - fromN y) (absN y))))
 (eqI (0 - List.foldl stepN 0 (List.take (x - fromN y) (absN y))) (Prod.fst (numB y)) ∧
 Bool.true = Prod.snd (numB y) ∧ True))
 (eqI (List.foldl stepN 0 (List.take (x - fromN y) (absN y))) (Prod.fst (numB y)) ∧
 Bool.true = Prod.snd (numB y) ∧ True)))))))
 (br (Int.ofNat y.length == 0) (eqI 0 (Prod.fst (numB y)) ∧ Bool.false = Prod.snd (numB y) ∧ True)
 (∃ (y_1 : List UInt8),
 List.drop (Int.toNat 0) y = y_1 ∧
 y_1.length ≤ 1000000 ∧
 ck (inR Go.IntKind.i64 (Int.ofNat y.length - 0))
 (br (ltI (↑(digsB y_1)) (Int.ofNat y.length - 0))
 (eqI 0 (Prod.fst (numB y)) ∧ Bool.false = Prod.snd (numB y) ∧ True)
 ((∃ (x : Nat),
 (fromN y ≤ x ∧ x ≤ y.length ∧ ∀ (b : UInt8), b ∈ absN y → isDig b = Bool.true) ∧
 (y = y ∧
 eqI 0 (Int.ofNat (fromN y)) ∧
 eqI 0 (List.foldl stepN 0 (List.take (x - fromN y) (absN y))) ∧ eqI 0 ↑x ∧ True) ∧
 True ∧ True) ∧
 ∀ (x : Nat),
 (fromN y ≤ x ∧ x ≤ y.length ∧ ∀ (b : UInt8), b ∈ absN y → isDig b = Bool.true) →
 br (ltI (↑x) (Int.ofNat y.length))
 (ck (inR Go.IntKind.i64 (List.foldl stepN 0 (List.take (x - fromN y) (absN y)) * 10))
 (so y[Int.toNat ↑x]? fun (val : UInt8) =>
 ck
 (inR Go.IntKind.i64
 (List.foldl stepN 0 (List.take (x - fromN y) (absN y)) * 10 +
 Go.IntKind.wrap Go.IntKind.i64 (Int.ofNat (UInt8.toNat val))))
 (ck
 (inR Go.IntKind.i64
 (List.foldl stepN 0 (List.take (x - fromN y) (absN y)) * 10 +
 Go.IntKind.wrap Go.IntKind.i64 (Int.ofNat (UInt8.toNat val)) -
 48))
 (br
 (ltI 1099511627776
 (List.foldl stepN 0 (List.take (x - fromN y) (absN y)) * 10 +
 Go.IntKind.wrap Go.IntKind.i64 (Int.ofNat (UInt8.toNat val)) -
 48))
 (ck (inR Go.IntKind.i64 (↑x + 1))
 (∃ (y_2 : Nat),
 (fromN y ≤ y_2 ∧ y_2 ≤ y.length ∧ ∀ (b : UInt8), b ∈ absN y → isDig b = Bool.true) ∧
 Ann.μ (aNumR y) y_2 < Ann.μ (aNumR y) x ∧
 (y = y ∧
 eqI (Int.ofNat (fromN y)) (Int.ofNat (fromN y)) ∧
 eqI 1099511627776 (List.foldl stepN 0 (List.take (y_2 - fromN y) (absN y))) ∧
 eqI (↑x + 1) ↑y_2 ∧ True) ∧
 True ∧ True))
 (ck (inR Go.IntKind.i64 (↑x + 1))
 (∃ (y_2 : Nat),
 (fromN y ≤ y_2 ∧ y_2 ≤ y.length ∧ ∀ (b : UInt8), b ∈ absN y → isDig b = Bool.true) ∧
 Ann.μ (aNumR y) y_2 < Ann.μ (aNumR y) x ∧
 (y = y ∧
 eqI (Int.ofNat (fromN y)) (Int.ofNat (fromN y)) ∧
 eqI
 (List.foldl stepN 0 (List.take (x - fromN y) (absN y)) * 10 +
 Go.IntKind.wrap Go.IntKind.i64 (Int.ofNat (UInt8.toNat val)) -
 48)
 (List.foldl stepN 0 (List.take (y_2 - fromN y) (absN y))) ∧
 eqI (↑x + 1) ↑y_2 ∧ True) ∧
 True ∧ True))))))
 (br (Int.ofNat (fromN y) == 1)
 (ck (inR Go.IntKind.i64 (0 - List.foldl stepN 0 (List.take (x - fromN y) (absN y))))
 (eqI (0 - List.foldl stepN 0 (List.take (x - fromN y) (absN y))) (Prod.fst (numB y)) ∧
 Bool.true = Prod.snd (numB y) ∧ True))
 (eqI (List.foldl stepN 0 (List.take (x - fromN y) (absN y))) (Prod.fst (numB y)) ∧
 Bool.true = Prod.snd (numB y) ∧ True)))))))
 (br (Int.ofNat y.length == 0) (eqI 0 (Prod.fst (numB y)) ∧ Bool.false = Prod.snd (numB y) ∧ True)
 (∃ (y_1 : List UInt8),
 List.drop (Int.toNat 0) y = y_1 ∧
 y_1.length ≤ 1000000 ∧
 ck (inR Go.IntKind.i64 (Int.ofNat y.length - 0))
 (br (ltI (↑(digsB y_1)) (Int.ofNat y.length - 0))
 (eqI 0 (Prod.fst (numB y)) ∧ Bool.false = Prod.snd (numB y) ∧ True)
 ((∃ (x : Nat),
 (fromN y ≤ x ∧ x ≤ y.length ∧ ∀ (b : UInt8), b ∈ absN y → isDig b = Bool.true) ∧
 (y = y ∧
 eqI 0 (Int.ofNat (fromN y)) ∧
 eqI 0 (List.foldl stepN 0 (List.take (x - fromN y) (absN y))) ∧ eqI 0 ↑x ∧ True) ∧
 True ∧ True) ∧
 ∀ (x : Nat),
 (fromN y ≤ x ∧ x ≤ y.length ∧ ∀ (b : UInt8), b ∈ absN y → isDig b = Bool.true) →
 br (ltI (↑x) (Int.ofNat y.length))
 (ck (inR Go.IntKind.i64 (List.foldl stepN 0 (List.take (x - fromN y) (absN y)) * 10))
 (so y[Int.toNat ↑x]? fun (val : UInt8) =>
 ck
 (inR Go.IntKind.i64
 (List.foldl stepN 0 (List.take (x - fromN y) (absN y)) * 10 +
 Go.IntKind.wrap Go.IntKind.i64 (Int.ofNat (UInt8.toNat val))))
 (ck
 (inR Go.IntKind.i64
 (List.foldl stepN 0 (List.take (x - fromN y) (absN y)) * 10 +
 Go.IntKind.wrap Go.IntKind.i64 (Int.ofNat (UInt8.toNat val)) -
 48))
 (br
 (ltI 1099511627776
 (List.foldl stepN 0 (List.take (x - fromN y) (absN y)) * 10 +
 Go.IntKind.wrap Go.IntKind.i64 (Int.ofNat (UInt8.toNat val)) -
 48))
 (ck (inR Go.IntKind.i64 (↑x + 1))
 (∃ (y_2 : Nat),
 (fromN y ≤ y_2 ∧ y_2 ≤ y.length ∧ ∀ (b : UInt8), b ∈ absN y → isDig b = Bool.true) ∧
 Ann.μ (aNumR y) y_2 < Ann.μ (aNumR y) x ∧
 (y = y ∧
 eqI (Int.ofNat (fromN y)) (Int.ofNat (fromN y)) ∧
 eqI 1099511627776 (List.foldl stepN 0 (List.take (y_2 - fromN y) (absN y))) ∧
 eqI (↑x + 1) ↑y_2 ∧ True) ∧
 True ∧ True))
 (ck (inR Go.IntKind.i64 (↑x + 1))
 (∃ (y_2 : Nat),
 (fromN y ≤ y_2 ∧ y_2 ≤ y.length ∧ ∀ (b : UInt8), b ∈ absN y → isDig b = Bool.true) ∧
 Ann.μ (aNumR y) y_2 < Ann.μ (aNumR y) x ∧
 (y = y ∧
 eqI (Int.ofNat (fromN y)) (Int.ofNat (fromN y)) ∧
 eqI
 (List.foldl stepN 0 (List.take (x - fromN y) (absN y)) * 10 +
 Go.IntKind.wrap Go.IntKind.i64 (Int.ofNat (UInt8.toNat val)) -
 48)
 (List.foldl stepN 0 (List.take (y_2 - fromN y) (absN y))) ∧
 eqI (↑x + 1) ↑y_2 ∧ True) ∧
 True ∧ True))))))
 (br (Int.ofNat (fromN y) == 1)
 (ck (inR Go.IntKind.i64 (0 - List.foldl stepN 0 (List.take (x - fromN y) (absN y))))
 (eqI (0 - List.foldl stepN 0 (List.take (x - fromN y) (absN y))) (Prod.fst (numB y)) ∧
 Bool.true = Prod.snd (numB y) ∧ True))
 (eqI (List.foldl stepN 0 (List.take (x - fromN y) (absN y))) (Prod.fst (numB y)) ∧
 Bool.true = Prod.snd (numB y) ∧ True))))))) := by kernel_rfl
theorem vcText : (askY (fun (y : Con.Y cText) => cfgS con0 (annAt F.ref06_Text 6 (aText y))) 400 F.ref06_Text) = (∀ (y : Nat),
 y ≤ 1099511627776 →
 (∃ (x : Nat × Nat × Bs),
 (x.1 ≤ 30 ∧
 x.2.2.length ≤ 30 ∧
 textB y = textF (10 + x.1) x.2.1 ++ x.2.2 ∧
 x.2.2.length + x.1 ≤ 30 ∧ x.2.1 < 10 ^ (x.1 + 1) ∧ x.2.1 ≤ y) ∧
 (eqI ↑y ↑x.2.1 ∧ Array.toList (ByteArray.data { data := #[] }) = x.2.2 ∧ True) ∧ True ∧ True) ∧
 ∀ (x : Nat × Nat × Bs),
 x.1 ≤ 30 ∧
 x.2.2.length ≤ 30 ∧
 textB y = textF (10 + x.1) x.2.1 ++ x.2.2 ∧
 x.2.2.length + x.1 ≤ 30 ∧ x.2.1 < 10 ^ (x.1 + 1) ∧ x.2.1 ≤ y →
 br (ltI 9 ↑x.2.1)
 (ck (inR Go.IntKind.i64 (48 + Int.tmod (↑x.2.1) 10))
 (∃ (c : List UInt8),
 [SV.int Go.IntKind.u8 (Go.IntKind.wrap Go.IntKind.u8 (48 + Int.tmod (↑x.2.1) 10))] = encBs c ∧
 ck (Nat.ble (c.length + x.2.2.length) 1048576)
 (ck (inR Go.IntKind.i64 (Int.tdiv (↑x.2.1) 10))
 (∃ (y_1 : Nat × Nat × Bs),
 (y_1.1 ≤ 30 ∧
 y_1.2.2.length ≤ 30 ∧
 textB y = textF (10 + y_1.1) y_1.2.1 ++ y_1.2.2 ∧
 y_1.2.2.length + y_1.1 ≤ 30 ∧ y_1.2.1 < 10 ^ (y_1.1 + 1) ∧ y_1.2.1 ≤ y) ∧
 Ann.μ (aText y) y_1 < Ann.μ (aText y) x ∧
 (eqI (Int.tdiv (↑x.2.1) 10) ↑y_1.2.1 ∧ c ++ x.2.2 = y_1.2.2 ∧ True) ∧
 True ∧ True))))
 (ck (inR Go.IntKind.i64 (48 + ↑x.2.1))
 (∃ (c : List UInt8),
 [SV.int Go.IntKind.u8 (Go.IntKind.wrap Go.IntKind.u8 (48 + ↑x.2.1))] = encBs c ∧
 ck (Nat.ble (c.length + x.2.2.length) 1048576) (c ++ x.2.2 = textB y ∧ True)))) := by kernel_rfl
end Go.Proofs

set_option maxRecDepth 100000
namespace Go.Proofs
open Go Go.Am Go.RowKit Go.Sy
variable [Inhabited DrP]
theorem con0_ok : ∀ g C, con0 g = some C → Go.Sy.ConOK Tryz.prog Tryz.tab g C := fun _ _ h => by cases h
theorem inR_nat (i : Nat) (h : i < 1000000000) : inR .i64 ((i : Int) + 1) = true := by rw [inR64]; omega
theorem nB_def (b : UInt8) : Int.ofNat b.toNat = nB b := rfl
theorem nB_range (b : UInt8) : 0 ≤ nB b ∧ nB b ≤ 255 := by
  have := b.toNat_lt
  unfold nB
  constructor
  · exact Int.natCast_nonneg _
  · show ((b.toNat : Nat) : Int) ≤ 255
    omega
theorem findB_at {s : Bs} {c : Int} {i : Nat} (h : i < s.length) (h1 : nB s[i] = c) (h2 : ∀ (j : Nat) (h : j < s.length), j < i → nB s[j] = c → False) : findB s c = i := by
  have : posB s c = some i := posB_some.2 ⟨h, h1, fun j hj => h2 j (by omega) hj⟩
  unfold findB
  rw [this]
theorem findB_no {s : Bs} {c : Int} (h2 : ∀ (j : Nat) (h : j < s.length), nB s[j] = c → False) : findB s c = -1 := by
  have : posB s c = none := posB_none.2 h2
  unfold findB
  rw [this]
theorem okFind_aux (s : Bs) (c : Int) (i : Nat) (hall : ∀ (j : Nat) (h : j < s.length), j < i → nB s[j] = c → False) (hi : i ≤ s.length) (h : ¬ (i : Int) < Int.ofNat s.length) : findB s c = -1 :=
  findB_no fun j hj => hall j hj (by simp only [Int.ofNat_eq_natCast] at h; omega)
theorem okFind : Go.Sy.ConOK Tryz.prog Tryz.tab F.ascii_find cFind := askY_ok (cfg := fun y => cfgS con0 (annAt F.ascii_find 3 (aFind y))) Tryz.prOk (fun _ => rfl) (fun _ => con0_ok) (n := 400) (by
  rw [vcFind]
  rintro ⟨s, c⟩ hpre
  simp only at hpre
  refine ⟨⟨0, ⟨by simp, fun j h hj => by omega⟩, ⟨rfl, rfl, rfl, rfl, rfl, trivial⟩, trivial, trivial⟩, ?_⟩
  rintro i ⟨hi, hall⟩
  simp only [br_iff, so_iff, ck_iff, ltI_eq, decide_eq_true_eq, decide_eq_false_iff_not, and_true] at hi hall ⊢
  refine ⟨fun hlt => ?_, fun hge => (okFind_aux s c i hall hi hge).symm⟩
  have hlt' : i < s.length := by simp only [Int.ofNat_eq_natCast] at hlt; omega
  refine ⟨s[i], by simp [hlt'], fun h1 => (findB_at hlt' (by simpa [nB] using h1) hall).symm, fun h1 => ⟨inR_nat i (by omega), i + 1, ⟨by omega, fun j h hj he => ?_⟩, ?_, by simp [eqI]⟩⟩
  · by_cases hji : j = i
    · subst hji
      exact absurd he (by simpa [nB] using h1)
    · exact hall j h (by omega) he
  · show s.length - (i + 1) < s.length - i
    omega)
theorem okFindR : Go.Sy.ConOK Tryz.prog Tryz.tab F.ref06_Find cFind := askY_ok (cfg := fun y => cfgS con0 (annAt F.ref06_Find 2 (aFindR y))) Tryz.prOk (fun _ => rfl) (fun _ => con0_ok) (n := 400) (by
  rw [vcFindR]
  rintro ⟨s, c⟩ hpre
  simp only at hpre
  refine ⟨⟨0, ⟨by simp, fun j h hj => by omega⟩, ⟨rfl, rfl, rfl, trivial⟩, trivial, trivial⟩, ?_⟩
  rintro i ⟨hi, hall⟩
  simp only [br_iff, so_iff, ck_iff, ltI_eq, decide_eq_true_eq, decide_eq_false_iff_not, and_true] at hi hall ⊢
  refine ⟨fun hlt => ?_, fun hge => (okFind_aux s c i hall hi hge).symm⟩
  have hlt' : i < s.length := by simp only [Int.ofNat_eq_natCast] at hlt; omega
  refine ⟨s[i], by simp [hlt'], fun h1 => (findB_at hlt' (by simpa [nB] using h1) hall).symm, fun h1 => ⟨inR_nat i (by omega), i + 1, ⟨by omega, fun j h hj he => ?_⟩, ?_, by simp [eqI]⟩⟩
  · by_cases hji : j = i
    · subst hji
      exact absurd he (by simpa [nB] using h1)
    · exact hall j h (by omega) he
  · show s.length - (i + 1) < s.length - i
    omega)
theorem conA1_ok : ∀ g C, conA1 g = some C → Go.Sy.ConOK Tryz.prog Tryz.tab g C := con_step okFind con_none
theorem findB_val (s : Bs) (c : Int) : (∃ i, posB s c = some i ∧ findB s c = (i : Int) ∧ i < s.length) ∨ (posB s c = none ∧ findB s c = -1) := by
  unfold findB
  cases h : posB s c with
  | none => exact .inr ⟨rfl, rfl⟩
  | some i =>
    obtain ⟨h1, _⟩ := posB_some.1 h
    exact .inl ⟨i, rfl, rfl, h1⟩
theorem okCut : Go.Sy.ConOK Tryz.prog Tryz.tab F.ascii_Cut cCut := askY_ok (cfg := fun y => cfgS conA1 (noAnn y)) Tryz.prOk (fun _ => rfl) (fun _ => conA1_ok) (n := 400) (by
  rw [vcCut]
  rintro ⟨s, c⟩ hpre
  refine ⟨(s, c), rfl, rfl, hpre, ?_⟩
  simp only at hpre ⊢
  rcases findB_val s c with ⟨i, h1, h2, h3⟩ | ⟨h1, h2⟩
  · simp only [br_iff, ck_iff, h2, cutB, h1, ltI_eq, nn_eq, decide_eq_true_eq, decide_eq_false_iff_not]
    refine ⟨fun h => by omega, fun _ => ⟨by omega, ?_, ?_, by omega, ?_, ?_⟩⟩
    · rw [Nat.ble_eq]; simp; omega
    · exact inR_nat i (by omega)
    · rw [Nat.ble_eq]; omega
    · rw [show ((i : Int) + 1).toNat = i + 1 by omega]
      simp
  · simp only [br_iff, ck_iff, h2, cutB, h1, ltI_eq, nn_eq, decide_eq_true_eq, decide_eq_false_iff_not]
    exact ⟨fun _ => by simp, fun h => absurd (by decide) h⟩)
theorem conA2_ok : ∀ g C, conA2 g = some C → Go.Sy.ConOK Tryz.prog Tryz.tab g C := con_step okCut conA1_ok
theorem okSplit : Go.Sy.ConOK Tryz.prog Tryz.tab F.ascii_Split cSplit := askY_ok (cfg := fun y => cfgS conA2 (annAt F.ascii_Split 2 (aSplit y))) Tryz.prOk (fun _ => rfl) (fun _ => conA2_ok) (n := 400) (by
  rw [vcSplit]
  rintro ⟨s, c⟩ hpre
  simp only at hpre
  refine ⟨⟨(s, []), ⟨by simp, by simp⟩, ⟨rfl, rfl, trivial, trivial⟩, ⟨⟨rfl, fun _ => rfl⟩, trivial⟩, trivial⟩, ?_⟩
  rintro ⟨t, l⟩ ⟨h1, h2⟩
  simp only at h1 h2
  refine ⟨(t, c), rfl, rfl, by simp only; omega, (cutB t c).1, rfl, ?_⟩
  simp only [br_iff, ck_iff]
  refine ⟨by simp; omega, fun h => ⟨?_, trivial⟩, fun h => ⟨((cutB t c).2.1, l ++ [(cutB t c).1]), ⟨?_, ?_⟩, ?_, by simp [eqI]⟩⟩
  · have h3 := splitB_pos t c
    cases hp : posB t c with
    | none => rw [hp] at h3; simp only at h3; simp only [cutB, hp]; rw [h1, h3]
    | some i => simp [cutB, hp] at h
  · have h3 := splitB_pos t c
    cases hp : posB t c with
    | none => simp [cutB, hp] at h
    | some i => rw [hp] at h3; simp only at h3; simp only [cutB, hp]; rw [h1, h3]; simp
  · cases hp : posB t c with
    | none => simp [cutB, hp] at h
    | some i =>
      obtain ⟨h4, _⟩ := posB_some.1 hp
      simp [cutB, hp]; omega
  · show (cutB t c).2.1.length < t.length
    cases hp : posB t c with
    | none => simp [cutB, hp] at h
    | some i =>
      obtain ⟨h4, _⟩ := posB_some.1 hp
      simp [cutB, hp]; omega)
theorem okDig : Go.Sy.ConOK Tryz.prog Tryz.tab F.ascii_digit cDig := askY_ok (cfg := fun y => cfgS con0 (noAnn y)) Tryz.prOk (fun _ => rfl) (fun _ => con0_ok) (n := 400) (by
  rw [vcDig]
  intro y _
  simp only [br_iff, leI_eq, isDig, and_true]
  constructor <;> intro h <;> simp [h])
theorem conA3_ok : ∀ g C, conA3 g = some C → Go.Sy.ConOK Tryz.prog Tryz.tab g C := con_step okSplit (con_step okDig conA2_ok)
theorem okDigs : Go.Sy.ConOK Tryz.prog Tryz.tab F.ascii_Digits cDigs := askY_ok (cfg := fun y => cfgS conA3 (annAt F.ascii_Digits 2 (aDigs y))) Tryz.prOk (fun _ => rfl) (fun _ => conA3_ok) (n := 400) (by
  rw [vcDigs]
  intro s hpre
  refine ⟨⟨0, by simp, ⟨rfl, rfl, trivial⟩, trivial, trivial⟩, ?_⟩
  intro i hi
  have hle := digsB_le s
  simp only [br_iff, so_iff, ck_iff, ltI_eq, decide_eq_true_eq, decide_eq_false_iff_not, and_true]
  refine ⟨fun hlt => ?_, fun hge => ?_⟩
  · have hlt' : i < s.length := by simp only [Int.ofNat_eq_natCast] at hlt; omega
    refine ⟨s[i], by simp [hlt'], s[i], rfl, trivial, fun h => ⟨inR_nat i (by omega), i + 1, ?_, ?_, by simp [eqI]⟩, fun h => ?_⟩
    · apply Decidable.byContradiction
      intro hn
      have : digsB s = i := by omega
      have h2 := digsB_at (s := s) (by omega)
      simp only [this] at h2
      rw [h] at h2
      cases h2
    · show s.length - (i + 1) < s.length - i
      omega
    · apply Decidable.byContradiction
      intro hn
      have hlt2 : i < digsB s := by simp only [eqI] at hn; omega
      obtain ⟨_, h2⟩ := digsB_get hlt2
      rw [h2] at h
      cases h
  · simp only [Int.ofNat_eq_natCast] at hge
    simp only [eqI]
    omega)
theorem wrap64_id (n : Int) (h : -9223372036854775808 ≤ n ∧ n ≤ 9223372036854775807) : Go.IntKind.wrap Go.IntKind.i64 n = n := by rw [IntKind.wrap_i64]; omega
theorem dig_val {b : UInt8} (h : isDig b = true) : Go.IntKind.wrap Go.IntKind.i64 (Go.IntKind.wrap Go.IntKind.u8 (Int.ofNat (UInt8.toNat b) - 48)) = nB b - 48 ∧ Go.IntKind.wrap Go.IntKind.i64 (Int.ofNat (UInt8.toNat b)) = nB b ∧ 0 ≤ nB b - 48 ∧ nB b - 48 ≤ 9 := by
  rw [isDig_iff] at h
  rw [nB_def]
  have h1 : Go.IntKind.wrap Go.IntKind.u8 (nB b - 48) = nB b - 48 := by simp only [IntKind.wrap, IntKind.signed, IntKind.bits, Bool.false_and, Bool.false_eq_true, if_false]; omega
  rw [h1, wrap64_id _ (by omega), wrap64_id _ (by omega)]
  exact ⟨rfl, rfl, by omega, by omega⟩
theorem fold_succ (s : Bs) (x : Nat) (h : x < s.length) : (s.take (x + 1)).foldl stepN 0 = stepN ((s.take x).foldl stepN 0) s[x] := by
  rw [List.take_succ_eq_append_getElem h, List.foldl_append]
  rfl
theorem fold_take (s : Bs) (h : ∀ b ∈ s, isDig b = true) (x : Nat) : 0 ≤ (s.take x).foldl stepN 0 ∧ (s.take x).foldl stepN 0 ≤ 1099511627776 :=
  foldN_range _ (fun b hb => h b (List.mem_of_mem_take hb)) 0 (by omega) (by omega)
theorem num_yes {y : Bs} (hne : absN y ≠ []) (hd : ∀ b ∈ absN y, isDig b = true) : numB y = ((if negB y then -1 else 1) * (absN y).foldl stepN 0, true) := by
  have h1 : ¬ digsB (absN y) < (absN y).length := by
    intro h
    have h2 := digsB_at h
    rw [hd _ (List.getElem_mem h)] at h2
    cases h2
  unfold numB
  rw [if_neg (by rintro (h | h); exact hne h; exact h1 h)]
theorem num_no {y : Bs} (h : absN y = [] ∨ digsB (absN y) < (absN y).length) : numB y = (0, false) := by
  unfold numB
  rw [if_pos h]
theorem num_loop (y t : Bs) (K : Int) (ht : t = absN y) (hK : K = if negB y = true then -1 else 1) (hne : absN y ≠ []) (hd : ∀ b ∈ absN y, isDig b = true) (hl : (absN y).length ≤ 1000000) : ((∃ (x : Nat),
                        (x ≤ List.length (absN y) ∧ ∀ (b : UInt8), b ∈ absN y → isDig b = Bool.true) ∧
                        (t = absN y ∧
                        eqI K (if negB y = Bool.true then -1 else 1) ∧
                        eqI 0 (List.foldl stepN 0 (List.take x (absN y))) ∧
                        eqI (Int.ofNat (List.length t)) (Int.ofNat (List.length (absN y))) ∧ eqI 0 ↑x ∧ True) ∧
                        True ∧ True) ∧
                        ∀ (x : Nat),
                        (x ≤ List.length (absN y) ∧ ∀ (b : UInt8), b ∈ absN y → isDig b = Bool.true) →
                        br (ltI (↑x) (Int.ofNat (List.length (absN y))))
                        (ck (inR Go.IntKind.i64 (List.foldl stepN 0 (List.take x (absN y)) * 10))
                        (so (absN y)[Int.toNat ↑x]? fun (val : UInt8) =>
                        ck
                        (inR Go.IntKind.i64
                        (List.foldl stepN 0 (List.take x (absN y)) * 10 +
                        Go.IntKind.wrap Go.IntKind.i64 (Go.IntKind.wrap Go.IntKind.u8 (Int.ofNat (UInt8.toNat val) - 48))))
                        (ck (inR Go.IntKind.i64 (↑x + 1))
                        (∃ (y_2 : Nat),
                        (y_2 ≤ List.length (absN y) ∧ ∀ (b : UInt8), b ∈ absN y → isDig b = Bool.true) ∧
                        Ann.μ (aNum y) y_2 < Ann.μ (aNum y) x ∧
                        (absN y = absN y ∧
                        eqI (if negB y = Bool.true then -1 else 1) (if negB y = Bool.true then -1 else 1) ∧
                        eqI
                        (if
                        1099511627776 <
                        List.foldl stepN 0 (List.take x (absN y)) * 10 +
                        Go.IntKind.wrap Go.IntKind.i64 (Go.IntKind.wrap Go.IntKind.u8 (Int.ofNat (UInt8.toNat val) - 48)) then
                        1099511627776
                        else
                        List.foldl stepN 0 (List.take x (absN y)) * 10 +
                        Go.IntKind.wrap Go.IntKind.i64 (Go.IntKind.wrap Go.IntKind.u8 (Int.ofNat (UInt8.toNat val) - 48)))
                        (List.foldl stepN 0 (List.take y_2 (absN y))) ∧
                        eqI (Int.ofNat (List.length (absN y))) (Int.ofNat (List.length (absN y))) ∧
                        eqI (↑x + 1) ↑y_2 ∧ True) ∧
                        True ∧ True))))
                        (ck
                        (inR Go.IntKind.i64 ((if negB y = Bool.true then -1 else 1) * List.foldl stepN 0 (List.take x (absN y))))
                        (eqI ((if negB y = Bool.true then -1 else 1) * List.foldl stepN 0 (List.take x (absN y)))
                        (Prod.fst (numB y)) ∧
                        Bool.true = Prod.snd (numB y) ∧ True))) := by
  refine ⟨⟨0, ⟨by simp, hd⟩, ⟨ht, hK, by simp [eqI], by rw [ht], by simp [eqI], trivial⟩, trivial, trivial⟩, ?_⟩
  rintro x ⟨hx, _⟩
  obtain ⟨r1, r2⟩ := fold_take _ hd x
  simp only [br_iff, so_iff, ck_iff, ltI_eq, decide_eq_true_eq, decide_eq_false_iff_not, and_true]
  refine ⟨fun hlt => ?_, fun hge => ?_⟩
  · have hlt' : x < (absN y).length := by simp only [Int.ofNat_eq_natCast] at hlt; omega
    obtain ⟨d1, _, d3, d4⟩ := dig_val (hd _ (List.getElem_mem hlt'))
    refine ⟨by rw [inR64]; omega, (absN y)[x], by simp [hlt'], ?_, inR_nat x (by omega), x + 1, ⟨by omega, hd⟩, ?_, ?_⟩
    · rw [d1, inR64]; omega
    · show (absN y).length - (x + 1) < (absN y).length - x
      omega
    · refine ⟨trivial, trivial, ?_, trivial, by simp [eqI]⟩
      rw [fold_succ _ _ hlt', d1]
      simp only [stepN, eqI]
      omega
  · have he : x = (absN y).length := by simp only [Int.ofNat_eq_natCast] at hge; omega
    subst he
    rw [List.take_length, num_yes hne hd] at *
    refine ⟨?_, by simp [eqI]⟩
    rw [inR64]
    split <;> omega
theorem numR_loop (y : Bs) (K : Int) (hK : K = Int.ofNat (fromN y)) (hne : absN y ≠ []) (hd : ∀ b ∈ absN y, isDig b = true) (hl : y.length ≤ 1000000) : ((∃ (x : Nat),
                        (fromN y ≤ x ∧ x ≤ List.length y ∧ ∀ (b : UInt8), b ∈ absN y → isDig b = Bool.true) ∧
                        (y = y ∧
                        eqI K (Int.ofNat (fromN y)) ∧
                        eqI 0 (List.foldl stepN 0 (List.take (x - fromN y) (absN y))) ∧ eqI K ↑x ∧ True) ∧
                        True ∧ True) ∧
                        ∀ (x : Nat),
                        (fromN y ≤ x ∧ x ≤ List.length y ∧ ∀ (b : UInt8), b ∈ absN y → isDig b = Bool.true) →
                        br (ltI (↑x) (Int.ofNat (List.length y)))
                        (ck (inR Go.IntKind.i64 (List.foldl stepN 0 (List.take (x - fromN y) (absN y)) * 10))
                        (so y[Int.toNat ↑x]? fun (val : UInt8) =>
                        ck
                        (inR Go.IntKind.i64
                        (List.foldl stepN 0 (List.take (x - fromN y) (absN y)) * 10 +
                        Go.IntKind.wrap Go.IntKind.i64 (Int.ofNat (UInt8.toNat val))))
                        (ck
                        (inR Go.IntKind.i64
                        (List.foldl stepN 0 (List.take (x - fromN y) (absN y)) * 10 +
                        Go.IntKind.wrap Go.IntKind.i64 (Int.ofNat (UInt8.toNat val)) -
                        48))
                        (br
                        (ltI 1099511627776
                        (List.foldl stepN 0 (List.take (x - fromN y) (absN y)) * 10 +
                        Go.IntKind.wrap Go.IntKind.i64 (Int.ofNat (UInt8.toNat val)) -
                        48))
                        (ck (inR Go.IntKind.i64 (↑x + 1))
                        (∃ (y_2 : Nat),
                        (fromN y ≤ y_2 ∧ y_2 ≤ List.length y ∧ ∀ (b : UInt8), b ∈ absN y → isDig b = Bool.true) ∧
                        Ann.μ (aNumR y) y_2 < Ann.μ (aNumR y) x ∧
                        (y = y ∧
                        eqI (Int.ofNat (fromN y)) (Int.ofNat (fromN y)) ∧
                        eqI 1099511627776 (List.foldl stepN 0 (List.take (y_2 - fromN y) (absN y))) ∧
                        eqI (↑x + 1) ↑y_2 ∧ True) ∧
                        True ∧ True))
                        (ck (inR Go.IntKind.i64 (↑x + 1))
                        (∃ (y_2 : Nat),
                        (fromN y ≤ y_2 ∧ y_2 ≤ List.length y ∧ ∀ (b : UInt8), b ∈ absN y → isDig b = Bool.true) ∧
                        Ann.μ (aNumR y) y_2 < Ann.μ (aNumR y) x ∧
                        (y = y ∧
                        eqI (Int.ofNat (fromN y)) (Int.ofNat (fromN y)) ∧
                        eqI
                        (List.foldl stepN 0 (List.take (x - fromN y) (absN y)) * 10 +
                        Go.IntKind.wrap Go.IntKind.i64 (Int.ofNat (UInt8.toNat val)) -
                        48)
                        (List.foldl stepN 0 (List.take (y_2 - fromN y) (absN y))) ∧
                        eqI (↑x + 1) ↑y_2 ∧ True) ∧
                        True ∧ True))))))
                        (br (Int.ofNat (fromN y) == 1)
                        (ck (inR Go.IntKind.i64 (0 - List.foldl stepN 0 (List.take (x - fromN y) (absN y))))
                        (eqI (0 - List.foldl stepN 0 (List.take (x - fromN y) (absN y))) (Prod.fst (numB y)) ∧
                        Bool.true = Prod.snd (numB y) ∧ True))
                        (eqI (List.foldl stepN 0 (List.take (x - fromN y) (absN y))) (Prod.fst (numB y)) ∧
                        Bool.true = Prod.snd (numB y) ∧ True))) := by
  have hlen : (absN y).length = y.length - fromN y := by unfold absN fromN; split <;> simp
  have hpos : 0 < (absN y).length := List.length_pos_iff.2 hne
  have hget : ∀ x (h : x < y.length), fromN y ≤ x → y[x] = (absN y)[x - fromN y]'(by omega) := by
    intro x h h2
    have e : (absN y)[x - fromN y]? = y[x]? := by
      unfold absN fromN
      unfold fromN at h2
      split
      · rename_i hn
        rw [if_pos hn] at h2
        rw [List.getElem?_drop]
        congr 1
        omega
      · simp
    rw [List.getElem?_eq_getElem h, List.getElem?_eq_getElem (by omega)] at e
    exact (Option.some.inj e).symm
  refine ⟨⟨fromN y, ⟨Nat.le_refl _, by omega, hd⟩, ⟨rfl, hK, by simp [eqI], by simp [eqI, hK], trivial⟩, trivial, trivial⟩, ?_⟩
  rintro x ⟨hx0, hx, _⟩
  obtain ⟨r1, r2⟩ := fold_take _ hd (x - fromN y)
  simp only [br_iff, so_iff, ck_iff, ltI_eq, decide_eq_true_eq, decide_eq_false_iff_not, and_true]
  refine ⟨fun hlt => ?_, fun hge => ?_⟩
  · have hlt' : x < y.length := by simp only [Int.ofNat_eq_natCast] at hlt; omega
    have hg := hget x hlt' hx0
    have hdx : isDig y[x] = true := by rw [hg]; exact hd _ (List.getElem_mem _)
    obtain ⟨_, d1, d3, d4⟩ := dig_val hdx
    have hs : List.foldl stepN 0 (List.take (x + 1 - fromN y) (absN y)) = stepN (List.foldl stepN 0 (List.take (x - fromN y) (absN y))) y[x] := by
      rw [show x + 1 - fromN y = (x - fromN y) + 1 by omega, fold_succ _ _ (by omega), hg]
    have hm : Ann.μ (aNumR y) (x + 1) < Ann.μ (aNumR y) x := by
      show y.length - (x + 1) < y.length - x
      omega
    refine ⟨by rw [inR64]; omega, y[x], by simp [hlt'], ?_, ?_, fun h1 => ⟨inR_nat x (by omega), x + 1, ⟨by omega, by omega, hd⟩, hm, ?_⟩, fun h1 => ⟨inR_nat x (by omega), x + 1, ⟨by omega, by omega, hd⟩, hm, ?_⟩⟩
    · rw [d1, inR64]; omega
    · rw [d1, inR64]; omega
    · refine ⟨trivial, trivial, ?_, by simp [eqI]⟩
      rw [d1] at h1
      rw [hs]
      simp only [stepN, eqI]
      omega
    · refine ⟨trivial, trivial, ?_, by simp [eqI]⟩
      rw [d1] at h1
      rw [hs, d1]
      simp only [stepN, eqI]
      omega
  · have he : x = y.length := by simp only [Int.ofNat_eq_natCast] at hge; omega
    subst he
    rw [show y.length - fromN y = (absN y).length by omega, List.take_length] at *
    rw [num_yes hne hd]
    unfold fromN
    cases hn : negB y
    · simp [eqI]
    · simp only [if_true]
      refine ⟨fun _ => ⟨by rw [inR64]; omega, by simp [eqI]⟩, fun h => by simp at h⟩
theorem okDigsR : Go.Sy.ConOK Tryz.prog Tryz.tab F.ref06_Digits cDigs := askY_ok (cfg := fun y => cfgS con0 (annAt F.ref06_Digits 3 (aDigsR y))) Tryz.prOk (fun _ => rfl) (fun _ => con0_ok) (n := 400) (by
  rw [vcDigsR]
  intro s hpre
  refine ⟨⟨0, by simp, ⟨rfl, by simp [eqI], rfl, trivial⟩, trivial, trivial⟩, ?_⟩
  intro i hi
  have hle := digsB_le s
  simp only [br_iff, so_iff, ck_iff, ltI_eq, leI_eq, decide_eq_true_eq, decide_eq_false_iff_not, and_true]
  refine ⟨fun hlt => ?_, fun hge => ?_⟩
  · have hlt' : i < s.length := by simp only [Int.ofNat_eq_natCast] at hlt; omega
    have hm : Ann.μ (aDigsR s) (i + 1) < Ann.μ (aDigsR s) i := by
      show s.length - (i + 1) < s.length - i
      omega
    have no : isDig s[i] = false → digsB s ≤ i := by
      intro h
      apply Decidable.byContradiction
      intro hn
      obtain ⟨_, h2⟩ := digsB_get (show i < digsB s by omega)
      rw [h2] at h
      cases h
    have step : ∀ (n : Int), n = Int.ofNat (min (i + 1) (digsB s)) → n = Int.ofNat (min (i + 1) (digsB s)) := fun _ h => h
    refine ⟨fun hq => ⟨s[i], by simp [hlt'], fun h1 => ⟨s[i], by simp [hlt'], fun h2 => ⟨by rw [inR64]; simp only [Int.ofNat_eq_natCast]; omega, inR_nat i (by omega), i + 1, by omega, hm, trivial, ?_, by simp [eqI]⟩, fun h2 => ⟨inR_nat i (by omega), i + 1, by omega, hm, trivial, ?_, by simp [eqI]⟩⟩, fun h1 => ⟨inR_nat i (by omega), i + 1, by omega, hm, trivial, ?_, by simp [eqI]⟩⟩, fun hq => ⟨inR_nat i (by omega), i + 1, by omega, hm, trivial, ?_, by simp [eqI]⟩⟩
    · have hd : isDig s[i] = true := by rw [isDig_iff]; exact ⟨h1, h2⟩
      have : ¬ digsB s ≤ i := by
        intro hn
        simp only [Int.ofNat_eq_natCast, beq_iff_eq] at hq
        have he : digsB s = i := by omega
        have h3 := digsB_at (s := s) (by omega)
        simp only [he] at h3
        rw [hd] at h3
        cases h3
      simp only [eqI, Int.ofNat_eq_natCast]
      omega
    · have hd : isDig s[i] = false := by rw [Bool.eq_false_iff]; intro h; rw [isDig_iff] at h; exact h2 h.2
      have := no hd
      simp only [eqI, Int.ofNat_eq_natCast]
      omega
    · have hd : isDig s[i] = false := by rw [Bool.eq_false_iff]; intro h; rw [isDig_iff] at h; exact h1 h.1
      have := no hd
      simp only [eqI, Int.ofNat_eq_natCast]
      omega
    · simp only [Int.ofNat_eq_natCast, beq_eq_false_iff_ne] at hq
      simp only [eqI, Int.ofNat_eq_natCast]
      omega
  · simp only [Int.ofNat_eq_natCast] at hge
    simp only [eqI, Int.ofNat_eq_natCast]
    omega)
theorem splitB_here {s : Bs} {c : Int} {a i : Nat} (hai : a ≤ i) (h : i < s.length) (h1 : nB s[i] = c) (h2 : ∀ (j : Nat) (h : j < s.length), a ≤ j → j < i → nB s[j] = c → False) : splitB (s.drop a) c = (s.drop a).take (i - a) :: splitB (s.drop (i + 1)) c := by
  have hp : posB (s.drop a) c = some (i - a) := posB_some.2 ⟨by simp; omega, by rw [List.getElem_drop]; simp only [show a + (i - a) = i by omega]; exact h1, fun j hj => by
    rw [List.getElem_drop]
    exact fun e => h2 (a + j) (by omega) (by omega) (by omega) e⟩
  rw [splitB_pos, hp]
  simp only [List.drop_drop]
  rw [show a + (i - a + 1) = i + 1 by omega]
theorem splitB_last {s : Bs} {c : Int} {a : Nat} (h2 : ∀ (j : Nat) (h : j < s.length), a ≤ j → nB s[j] = c → False) : splitB (s.drop a) c = [s.drop a] := by
  have hp : posB (s.drop a) c = none := posB_none.2 (fun j hj => by
    rw [List.getElem_drop]
    exact fun e => h2 (a + j) (by simp at hj; omega) (by omega) e)
  rw [splitB_pos, hp]
theorem okSplitR : Go.Sy.ConOK Tryz.prog Tryz.tab F.ref06_Split cSplit := askY_ok (cfg := fun y => cfgS con0 (annAt F.ref06_Split 4 (aSplitR y))) Tryz.prOk (fun _ => rfl) (fun _ => con0_ok) (n := 400) (by
  rw [vcSplitR]
  rintro ⟨s, c⟩ hpre
  simp only at hpre
  refine ⟨⟨(0, 0, []), ⟨by simp, by simp, by simp, by simp, fun j h _ hj => by simp at hj⟩, ⟨rfl, rfl, trivial, rfl, rfl, trivial⟩, ⟨rfl, trivial⟩, trivial⟩, ?_⟩
  rintro ⟨a, i, l⟩ ⟨h1, h2, h3, h4, h5⟩
  simp only at h1 h2 h3 h4 h5
  simp only [br_iff, so_iff, ck_iff, ltI_eq, decide_eq_true_eq, decide_eq_false_iff_not, and_true, Int.toNat_natCast]
  refine ⟨fun hlt => ?_, fun hge => ?_⟩
  · have hlt' : i < s.length := by simp only [Int.ofNat_eq_natCast] at hlt; omega
    refine ⟨s[i], by simp [hlt'], fun hc => ?_, fun hc => ⟨inR_nat i (by omega), (a, i + 1, l), ⟨by simp only; omega, by simp only; omega, h3, h4, fun j hj ha hji he => ?_⟩, ?_, by simp [eqI]⟩⟩
    · have hc' : nB s[i] = c := by simpa [nB] using hc
      have hs := splitB_here h1 hlt' hc' h5
      refine ⟨by simp; omega, _, rfl, by simp; omega, inR_nat i (by omega), inR_nat i (by omega), (i + 1, i + 1, l ++ [(s.drop a).take (i - a)]), ⟨by simp, by simp only; omega, ?_, by simp; omega, fun j hj ha hji => by simp only at ha hji; omega⟩, ?_, by simp [eqI]⟩
      · rw [h3, hs]; simp
      · show s.length - (i + 1) < s.length - i
        omega
    · by_cases hji2 : j = i
      · subst hji2
        exact absurd he (by simpa [nB] using hc)
      · exact h5 j hj ha (by simp only at hji; omega) he
    · show s.length - (i + 1) < s.length - i
      omega
  · have he : i = s.length := by simp only [Int.ofNat_eq_natCast] at hge; omega
    subst he
    refine ⟨by simpa using h1, _, rfl, by simp; omega, ?_⟩
    rw [h3, splitB_last (fun j hj ha => h5 j hj ha hj)])
theorem absN_neg {y : Bs} (h : negB y = true) : absN y = y.drop 1 := by unfold absN; rw [if_pos h]
theorem absN_pos {y : Bs} (h : negB y = false) : absN y = y := by unfold absN; rw [if_neg (by simp [h])]
theorem neg_iff {b : UInt8} {y : Bs} : negB (b :: y) = (Int.ofNat b.toNat == 45) := rfl
theorem okDigs_all {y : Bs} (h : ¬ (↑(digsB y) : Int) < Int.ofNat y.length) : ∀ b ∈ y, isDig b = true := digsB_all (by simp only [Int.ofNat_eq_natCast] at h; omega)
theorem conA4_ok : ∀ g C, conA4 g = some C → Go.Sy.ConOK Tryz.prog Tryz.tab g C := con_step okDigs (con_step okDigsR conA3_ok)
theorem okNum : Go.Sy.ConOK Tryz.prog Tryz.tab F.ascii_Number cNum := askY_ok (cfg := fun y => cfgS conA4 (annAt F.ascii_Number 8 (aNum y))) Tryz.prOk (fun _ => rfl) (fun _ => conA4_ok) (n := 400) (by
  rw [vcNum]
  intro y hpre
  cases y with
  | nil =>
    have hn : numB [] = (0, false) := rfl
    refine br_iff.2 ⟨fun h => by simp at h, fun _ => br_iff.2 ⟨fun _ => by rw [hn]; exact ⟨rfl, rfl, trivial⟩, fun h => by simp at h⟩⟩
  | cons b s =>
    refine br_iff.2 ⟨fun _ => so_iff.2 ⟨b, rfl, br_iff.2 ⟨fun hb => ck_iff.2 ⟨by simp, br_iff.2 ⟨fun h => ?_, fun h => ⟨s, rfl, by simp at hpre; omega, br_iff.2 ⟨fun hd => ?_, fun hd => ?_⟩⟩⟩⟩, fun hb => br_iff.2 ⟨fun h => by simp at h, fun _ => ⟨b :: s, rfl, hpre, br_iff.2 ⟨fun hd => ?_, fun hd => ?_⟩⟩⟩⟩⟩, fun h => by simp at h⟩
    · have hg : negB (b :: s) = true := by rw [neg_iff]; exact hb
      have he : absN (b :: s) = [] := by rw [absN_neg hg]; simpa using h
      rw [num_no (.inl he)]
      exact ⟨rfl, rfl, trivial⟩
    · have hg : negB (b :: s) = true := by rw [neg_iff]; exact hb
      rw [ltI_eq, decide_eq_true_eq] at hd
      rw [num_no (.inr (by rw [absN_neg hg]; simp only [Int.ofNat_eq_natCast] at hd; simp at hd ⊢; omega))]
      exact ⟨rfl, rfl, trivial⟩
    · have hg : negB (b :: s) = true := by rw [neg_iff]; exact hb
      rw [ltI_eq, decide_eq_false_iff_not] at hd
      have ha := absN_neg hg
      exact num_loop _ _ _ ha.symm (by rw [if_pos hg]) (by rw [ha]; simpa using h) (by rw [ha]; exact okDigs_all hd) (by rw [ha]; simp at hpre ⊢; omega)
    · have hg : negB (b :: s) = false := by rw [neg_iff]; exact hb
      rw [ltI_eq, decide_eq_true_eq] at hd
      rw [num_no (.inr (by rw [absN_pos hg]; simp only [Int.ofNat_eq_natCast] at hd; omega))]
      exact ⟨rfl, rfl, trivial⟩
    · have hg : negB (b :: s) = false := by rw [neg_iff]; exact hb
      rw [ltI_eq, decide_eq_false_iff_not] at hd
      have ha := absN_pos hg
      exact num_loop _ _ _ ha.symm (by rw [if_neg (by simp [hg])]) (by rw [ha]; simp) (by rw [ha]; exact okDigs_all hd) (by rw [ha]; exact hpre))
theorem okNumR : Go.Sy.ConOK Tryz.prog Tryz.tab F.ref06_Number cNum := askY_ok (cfg := fun y => cfgS conA4 (annAt F.ref06_Number 8 (aNumR y))) Tryz.prOk (fun _ => rfl) (fun _ => conA4_ok) (n := 400) (by
  rw [vcNumR]
  intro y hpre
  cases y with
  | nil =>
    have hn : numB [] = (0, false) := rfl
    refine br_iff.2 ⟨fun h => by simp [ltI_eq] at h, fun _ => br_iff.2 ⟨fun _ => by rw [hn]; exact ⟨rfl, rfl, trivial⟩, fun h => by simp at h⟩⟩
  | cons b s =>
    have hbig : s.length + 1 ≤ 1000000 := by simpa using hpre
    have hln : Int.ofNat (b :: s).length = (s.length : Int) + 1 := by simp
    rw [hln]
    refine br_iff.2 ⟨fun _ => so_iff.2 ⟨b, rfl, br_iff.2 ⟨fun hb => br_iff.2 ⟨fun h => ?_, fun h => ck_iff.2 ⟨by simp, s, rfl, by omega, ck_iff.2 ⟨by rw [inR64]; omega, br_iff.2 ⟨fun hd => ?_, fun hd => ?_⟩⟩⟩⟩, fun hb => br_iff.2 ⟨fun h => by simp at h; omega, fun _ => ⟨b :: s, rfl, hpre, ck_iff.2 ⟨by rw [inR64]; omega, br_iff.2 ⟨fun hd => ?_, fun hd => ?_⟩⟩⟩⟩⟩⟩, fun h => by rw [ltI_eq] at h; simp at h <;> omega⟩
    · have hg : negB (b :: s) = true := by rw [neg_iff]; exact hb
      have hs : s = [] := by simp at h; exact List.eq_nil_of_length_eq_zero (by omega)
      rw [num_no (.inl (by rw [absN_neg hg]; simpa using hs))]
      exact ⟨rfl, rfl, trivial⟩
    · have hg : negB (b :: s) = true := by rw [neg_iff]; exact hb
      rw [ltI_eq, decide_eq_true_eq] at hd
      rw [num_no (.inr (by rw [absN_neg hg]; simp at hd ⊢; omega))]
      exact ⟨rfl, rfl, trivial⟩
    · have hg : negB (b :: s) = true := by rw [neg_iff]; exact hb
      rw [ltI_eq, decide_eq_false_iff_not] at hd
      have ha := absN_neg hg
      have := numR_loop (b :: s) 1 (by unfold fromN; rw [if_pos hg]; rfl) (by rw [ha]; intro e; simp at e; subst e; simp at h) (by rw [ha]; exact okDigs_all (by simp at hd ⊢; omega)) hpre
      rw [hln] at this
      exact this
    · have hg : negB (b :: s) = false := by rw [neg_iff]; exact hb
      rw [ltI_eq, decide_eq_true_eq] at hd
      rw [num_no (.inr (by rw [absN_pos hg]; simp at hd ⊢; omega))]
      exact ⟨rfl, rfl, trivial⟩
    · have hg : negB (b :: s) = false := by rw [neg_iff]; exact hb
      rw [ltI_eq, decide_eq_false_iff_not] at hd
      have ha := absN_pos hg
      have := numR_loop (b :: s) 0 (by unfold fromN; rw [if_neg (by simp [hg])]; rfl) (by rw [ha]; simp) (by rw [ha]; exact okDigs_all (by simp at hd ⊢; omega)) hpre
      rw [hln] at this
      exact this)
theorem textF_lt (k n : Nat) (h : n ≤ 9) : textF (k + 1) n = [UInt8.ofNat (48 + n)] := by simp [textF, h]
theorem okText : Go.Sy.ConOK Tryz.prog Tryz.tab F.ref06_Text cText := askY_ok (cfg := fun y => cfgS con0 (annAt F.ref06_Text 6 (aText y))) Tryz.prOk (fun _ => rfl) (fun _ => con0_ok) (n := 400) (by
  rw [vcText]
  intro n hpre
  have hpre : n ≤ 1099511627776 := hpre
  refine ⟨⟨(30, n, []), ⟨by simp, by simp, by simp [textB], by simp, ?_, Nat.le_refl _⟩, ⟨rfl, rfl, trivial⟩, trivial, trivial⟩, ?_⟩
  · exact Nat.lt_of_le_of_lt hpre (by show 1099511627776 < 10 ^ 31; decide)
  rintro ⟨k, m, s⟩ ⟨h1, h2, h3, h4, h5, h6⟩
  simp only at h1 h2 h3 h4 h5 h6
  have wr : ∀ d : Nat, d ≤ 9 → [SV.int Go.IntKind.u8 (Go.IntKind.wrap Go.IntKind.u8 (48 + (d : Int)))] = encBs [UInt8.ofNat (48 + d)] := by
    intro d hd
    have : Go.IntKind.wrap Go.IntKind.u8 (48 + (d : Int)) = Int.ofNat (UInt8.ofNat (48 + d)).toNat := by
      simp only [IntKind.wrap, IntKind.signed, IntKind.bits, Bool.false_and, Bool.false_eq_true, if_false, UInt8.toNat_ofNat', Int.ofNat_eq_natCast]
      omega
    rw [this]
    rfl
  have hk : 9 < m → 1 ≤ k := by
    intro hm
    apply Decidable.byContradiction
    intro hn
    have : k = 0 := by omega
    subst this
    simp at h5
    omega
  have tm : Int.tmod (m : Int) 10 = ((m % 10 : Nat) : Int) := rfl
  have td : Int.tdiv (m : Int) 10 = ((m / 10 : Nat) : Int) := rfl
  simp only [tm, td]
  refine br_iff.2 ⟨fun h => ck_iff.2 ⟨?_, [UInt8.ofNat (48 + m % 10)], wr _ (by omega), ck_iff.2 ⟨by simp; omega, ck_iff.2 ⟨?_, (k - 1, m / 10, UInt8.ofNat (48 + m % 10) :: s), ⟨by simp only; omega, ?_, ?_, ?_, ?_, ?_⟩, ?_, ⟨rfl, rfl, trivial⟩, trivial, trivial⟩⟩⟩, fun h => ck_iff.2 ⟨?_, [UInt8.ofNat (48 + m)], wr _ ?_, ck_iff.2 ⟨by simp; omega, ?_, trivial⟩⟩⟩
  · rw [inR64]; omega
  · rw [inR64]; omega
  all_goals (simp only [ltI_eq, decide_eq_true_eq, decide_eq_false_iff_not] at h)
  · have := hk (by omega); simp; omega
  · have := hk (by omega)
    rw [h3, show 10 + k = (10 + (k - 1)) + 1 by omega]
    have hm : ¬ m ≤ 9 := by omega
    simp only [textF, if_neg hm]
    simp
  · have := hk (by omega); simp; omega
  · have := hk (by omega)
    simp only
    rw [show k - 1 + 1 = k by omega]
    rw [Nat.pow_succ] at h5
    omega
  · simp only; omega
  · show m / 10 < m
    omega
  · rw [inR64]; omega
  · omega
  · rw [h3, show 10 + k = (9 + k) + 1 by omega, textF_lt _ _ (by omega)])
theorem conA5_ok : ∀ g C, conA5 g = some C → Go.Sy.ConOK Tryz.prog Tryz.tab g C := con_step okNum (con_step okNumR (con_step okFindR (con_step okSplitR (con_step okText conA4_ok))))
end Go.Proofs

set_option maxRecDepth 100000
namespace Go.Proofs
open Go Go.Am Go.RowKit Go.Sy
variable [Inhabited DrP]
def cSignE : Con := { Y := UInt8 × Bool, pre := fun _ => True, args := fun y => [.int .u8 (nB y.1), .bool y.2], res := fun y => .bool (signE (nB y.1) y.2) }
def cSign : Con := { Y := UInt8, pre := fun _ => True, args := fun y => [.int .u8 (nB y)], res := fun y => .bool (signB y) }
def cBs (p : Bs → Bool) : Con := { Y := Bs, pre := fun y => y.length ≤ 100000, args := fun y => [.str y], res := fun y => .bool (p y) }
def aLabel (y : Bs) : Ann := { α := Nat, ok := fun i => i ≤ y.length ∧ ∀ j (h : j < y.length), j < i → signE (nB y[j]) (j == 0 || j == y.length - 1) = true, μ := fun i => y.length - i, keep := [], slots := fun i => [(0, .str y), (12, i64 (Int.ofNat y.length)), (13, i64 i)], objs := fun _ => [] }
def aFour (y : Bs) : Ann := { α := Nat, ok := fun i => i ≤ (splitB y 46).length ∧ ∀ j (h : j < (splitB y 46).length), j < i → partB (splitB y 46)[j] = true, μ := fun i => (splitB y 46).length - i, keep := [], slots := fun i => [(13, strs (splitB y 46)), (14, i64 (Int.ofNat (splitB y 46).length)), (15, i64 i)], objs := fun _ => [] }
def aBrack (y : Bs) : Ann := let l := (y.drop 1).take (y.length - 2); { α := Nat, ok := fun i => i ≤ l.length ∧ ∀ j (h : j < l.length), j < i → hexB l[j] = true, μ := fun i => l.length - i, keep := [], slots := fun i => [(31, .lst UInt8 l encB), (32, i64 (Int.ofNat l.length)), (33, i64 i)], objs := fun _ => [] }
def aBrackR (y : Bs) : Ann := { α := Nat, ok := fun i => 1 ≤ i ∧ i + 1 ≤ y.length ∧ ∀ j (h : j < y.length), 1 ≤ j → j < i → hexB y[j] = true, μ := fun i => y.length - i, keep := [], slots := fun i => [(0, .str y), (3, i64 i)], objs := fun _ => [] }
def aName (y : Bs) : Ann := { α := Nat, ok := fun i => i ≤ (splitB y 46).length ∧ ∀ j (h : j < (splitB y 46).length), j < i → labelB (splitB y 46)[j] = true, μ := fun i => (splitB y 46).length - i, keep := [], slots := fun i => [(13, strs (splitB y 46)), (14, i64 (Int.ofNat (splitB y 46).length)), (15, i64 i)], objs := fun _ => [] }
def cLabels : Con := { Y := Bs, pre := fun y => y.length ≤ 100000, args := fun y => [.str y], res := fun y => strs (if nameB y then splitB y 46 else []) }
def cPrefix : Con := { Y := Bs × Bs, pre := fun y => y.1.length ≤ 100000 ∧ y.2.length ≤ 100000, args := fun y => [.str y.1, .str y.2], res := fun y => .bool (decide (y.1.take y.2.length = y.2)) }
def cParse : Con := { Y := Bs, pre := fun y => y.length ≤ 100000, args := fun y => [.str y], res := fun y => .tup [.agg [.str (ruleB y).1, .bool (ruleB y).2.1, .bool (ruleB y).2.2], .bool (isRule y)] }
def checkR (l : List Bs) : Int := if 256 < l.length then 3 else if l.all isRule then 0 else 1
def cCheckR : Con := { Y := List Bs, pre := fun y => y.length ≤ 100000 ∧ ∀ s ∈ y, s.length ≤ 100000, args := fun y => [strs y], res := fun y => i64 (checkR y) }
def aCheckR (y : List Bs) : Ann := { α := Nat, ok := fun i => i ≤ y.length ∧ ∀ j (h : j < y.length), j < i → isRule y[j] = true, μ := fun i => y.length - i, keep := [], slots := fun i => [(10, strs y), (11, i64 (Int.ofNat y.length)), (12, i64 i)], objs := fun _ => [] }
def aLabelR (y : Bs) : Ann := { α := Nat, ok := fun i => i ≤ y.length ∧ ∀ j (h : j < y.length), j < i → signB y[j] = true, μ := fun i => y.length - i, keep := [], slots := fun i => [(0, .str y), (3, i64 i)], objs := fun _ => [] }
def aFourR (y : Bs) : Ann := { α := Nat, ok := fun i => i ≤ 4 ∧ ∀ j (h : j < (splitB y 46).length), j < i → partB (splitB y 46)[j] = true, μ := fun i => 4 - i, keep := [], slots := fun i => [(3, strs (splitB y 46)), (4, i64 i)], objs := fun _ => [] }
def aNameR (y : Bs) : Ann := { α := Nat, ok := fun i => i ≤ (splitB y 46).length ∧ ∀ j (h : j < (splitB y 46).length), j < i → labelB (splitB y 46)[j] = true, μ := fun i => (splitB y 46).length - i, keep := [], slots := fun i => [(3, strs (splitB y 46)), (4, i64 i)], objs := fun _ => [] }
def signR (y : Bs) : Int := if (ruleB y).2.1 then 42 else if (ruleB y).2.2 then 33 else 0
def split9 (y : Bs) : Int × Bs := if 2 < y.length ∧ y.take 2 = [42, 46] then (42, y.drop 2) else if 1 < y.length ∧ y.head? = some 33 then (33, y.drop 1) else (0, y)
def cSplit9 : Con := { Y := Bs, pre := fun y => y.length ≤ 100000, args := fun y => [.str y], res := fun y => .tup [.int .u8 (split9 y).1, .str (split9 y).2] }
def cRight : Con := { Y := List Bs, pre := fun y => y.length ≤ 100000 ∧ ∀ s ∈ y, s.length ≤ 100000, args := fun y => [strs y], res := fun y => .bool (y.all isRule) }
def aRight (y : List Bs) : Ann := { α := Nat, ok := fun i => i ≤ y.length ∧ ∀ j (h : j < y.length), j < i → isRule y[j] = true, μ := fun i => y.length - i, keep := [], slots := fun i => [(0, strs y), (3, i64 i)], objs := fun _ => [] }

noncomputable def conH1 (f : FuncId) : Option Con := bif Nat.beq f F.host_sign then some cSignE else bif Nat.beq f F.ref08_sign then some cSign else conA5 f
noncomputable def conH2 (f : FuncId) : Option Con := bif Nat.beq f F.host_label then some (cBs labelB) else bif Nat.beq f F.ref08_label then some (cBs labelB) else bif Nat.beq f F.host_four then some (cBs fourB) else bif Nat.beq f F.ref08_four then some (cBs fourB) else bif Nat.beq f F.host_bracket then some (cBs brackB) else bif Nat.beq f F.ref08_bracket then some (cBs brackB) else conH1 f
noncomputable def conH3 (f : FuncId) : Option Con := bif Nat.beq f F.host_Address then some (cBs addrB) else bif Nat.beq f F.ref08_Address then some (cBs addrB) else bif Nat.beq f F.ref08_Name then some (cBs nameB) else conH2 f
noncomputable def conH4 (f : FuncId) : Option Con := bif Nat.beq f F.host_name then some (cBs nameB) else bif Nat.beq f F.internal_stringslite_HasPrefix then some cPrefix else conH3 f
noncomputable def conH5 (f : FuncId) : Option Con := bif Nat.beq f F.host_Labels then some cLabels else bif Nat.beq f F.strings_HasPrefix then some cPrefix else bif Nat.beq f F.ref09_split then some cSplit9 else conH4 f
noncomputable def conH6 (f : FuncId) : Option Con := bif Nat.beq f F.suffix_parse then some cParse else bif Nat.beq f F.ref09_Rule then some (cBs isRule) else conH5 f
noncomputable def conH7 (f : FuncId) : Option Con := bif Nat.beq f F.suffix_Check then some cCheckR else bif Nat.beq f F.ref09_Right then some cRight else conH6 f
end Go.Proofs

set_option maxRecDepth 100000
set_option maxHeartbeats 4000000
namespace Go.Proofs
open Go Go.Am Go.RowKit Go.Sy
variable [Inhabited DrP]
theorem vcSignE : (askY (fun (y : Con.Y cSignE) => cfgS con0 (noAnn y)) 400 F.host_sign) = (∀ (y : UInt8 × Bool),
 True →
 br (nB y.1 == 45)
 (br y.2 (Bool.false = signE (nB y.1) y.2 ∧ True)
 (Bool.true = signE (nB y.1) y.2 ∧ True))
 (br (leI 97 (nB y.1))
 (br (leI (nB y.1) 122) (Bool.true = signE (nB y.1) y.2 ∧ True)
 (br (leI 48 (nB y.1))
 (br (leI (nB y.1) 57) (Bool.true = signE (nB y.1) y.2 ∧ True)
 (br (nB y.1 == 95) (Bool.true = signE (nB y.1) y.2 ∧ True)
 (Bool.false = signE (nB y.1) y.2 ∧ True)))
 (br (nB y.1 == 95) (Bool.true = signE (nB y.1) y.2 ∧ True)
 (Bool.false = signE (nB y.1) y.2 ∧ True))))
 (br (leI 48 (nB y.1))
 (br (leI (nB y.1) 57) (Bool.true = signE (nB y.1) y.2 ∧ True)
 (br (nB y.1 == 95) (Bool.true = signE (nB y.1) y.2 ∧ True)
 (Bool.false = signE (nB y.1) y.2 ∧ True)))
 (br (nB y.1 == 95) (Bool.true = signE (nB y.1) y.2 ∧ True)
 (Bool.false = signE (nB y.1) y.2 ∧ True))))) := by kernel_rfl
theorem vcSign : (askY (fun (y : Con.Y cSign) => cfgS con0 (noAnn y)) 400 F.ref08_sign) = (∀ (y : UInt8),
 True →
 br (leI 97 (nB y))
 (br (leI (nB y) 122) (Bool.true = signB y ∧ True)
 (br (leI 48 (nB y))
 (br (leI (nB y) 57) (Bool.true = signB y ∧ True)
 (br (nB y == 45) (Bool.true = signB y ∧ True) ((nB y == 95) = signB y ∧ True)))
 (br (nB y == 45) (Bool.true = signB y ∧ True) ((nB y == 95) = signB y ∧ True))))
 (br (leI 48 (nB y))
 (br (leI (nB y) 57) (Bool.true = signB y ∧ True)
 (br (nB y == 45) (Bool.true = signB y ∧ True) ((nB y == 95) = signB y ∧ True)))
 (br (nB y == 45) (Bool.true = signB y ∧ True) ((nB y == 95) = signB y ∧ True)))) := by kernel_rfl
theorem vcLabel : (askY (fun (y : Con.Y (cBs labelB)) => cfgS conH1 (annAt F.host_label 4 (aLabel y))) 400 F.host_label) = (∀ (y : List UInt8),
 y.length ≤ 100000 →
 br (y == Array.toList (ByteArray.data { data := #[] })) (Bool.false = labelB y ∧ True)
 (br (ltI 63 (Int.ofNat y.length)) (Bool.false = labelB y ∧ True)
 ((∃ (x : Nat),
 (x ≤ y.length ∧ ∀ (j : Nat) (h : j < y.length), j < x → signE (nB y[j]) (j == 0 || j == y.length - 1) = Bool.true) ∧
 (y = y ∧ eqI (Int.ofNat y.length) (Int.ofNat y.length) ∧ eqI 0 ↑x ∧ True) ∧ True ∧ True) ∧
 ∀ (x : Nat),
 (x ≤ y.length ∧ ∀ (j : Nat) (h : j < y.length), j < x → signE (nB y[j]) (j == 0 || j == y.length - 1) = Bool.true) →
 br (ltI (↑x) (Int.ofNat y.length))
 (so y[Int.toNat ↑x]? fun (val : UInt8) =>
 br ((↑x : Int) == 0)
 (∃ (y_1 : UInt8 × Bool),
 eqI (Int.ofNat (UInt8.toNat val)) (nB y_1.1) ∧
 Bool.true = y_1.2 ∧
 True ∧
 br (!signE (nB y_1.1) y_1.2) (Bool.false = labelB y ∧ True)
 (ck (inR Go.IntKind.i64 (↑x + 1))
 (∃ (y_2 : Nat),
 (y_2 ≤ y.length ∧
 ∀ (j : Nat) (h : j < y.length), j < y_2 → signE (nB y[j]) (j == 0 || j == y.length - 1) = Bool.true) ∧
 Ann.μ (aLabel y) y_2 < Ann.μ (aLabel y) x ∧
 (y = y ∧ eqI (Int.ofNat y.length) (Int.ofNat y.length) ∧ eqI (↑x + 1) ↑y_2 ∧ True) ∧ True ∧ True)))
 (ck (inR Go.IntKind.i64 (Int.ofNat y.length - 1))
 (∃ (y_1 : UInt8 × Bool),
 eqI (Int.ofNat (UInt8.toNat val)) (nB y_1.1) ∧
 ((↑x : Int) == Int.ofNat y.length - 1) = y_1.2 ∧
 True ∧
 br (!signE (nB y_1.1) y_1.2) (Bool.false = labelB y ∧ True)
 (ck (inR Go.IntKind.i64 (↑x + 1))
 (∃ (y_2 : Nat),
 (y_2 ≤ y.length ∧
 ∀ (j : Nat) (h : j < y.length), j < y_2 → signE (nB y[j]) (j == 0 || j == y.length - 1) = Bool.true) ∧
 Ann.μ (aLabel y) y_2 < Ann.μ (aLabel y) x ∧
 (y = y ∧ eqI (Int.ofNat y.length) (Int.ofNat y.length) ∧ eqI (↑x + 1) ↑y_2 ∧ True) ∧ True ∧ True)))))
 (Bool.true = labelB y ∧ True)))) := by kernel_rfl
theorem vcLabelR : (askY (fun (y : Con.Y (cBs labelB)) => cfgS conH1 (annAt F.ref08_label 4 (aLabelR y))) 400 F.ref08_label) = (∀ (y : List UInt8),
 y.length ≤ 100000 →
 br (ltI (Int.ofNat y.length) 1) (Bool.false = labelB y ∧ True)
 (br (ltI 63 (Int.ofNat y.length)) (Bool.false = labelB y ∧ True)
 (so y[Int.toNat 0]? fun (val : UInt8) =>
 br (Int.ofNat (UInt8.toNat val) == 45) (Bool.false = labelB y ∧ True)
 (ck (inR Go.IntKind.i64 (Int.ofNat y.length - 1))
 (ck (nn (Int.ofNat y.length - 1))
 (so y[Int.toNat (Int.ofNat y.length - 1)]? fun (val : UInt8) =>
 br (Int.ofNat (UInt8.toNat val) == 45) (Bool.false = labelB y ∧ True)
 ((∃ (x : Nat),
 (x ≤ y.length ∧ ∀ (j : Nat) (h : j < y.length), j < x → signB y[j] = Bool.true) ∧ (y = y ∧ eqI 0 ↑x ∧ True) ∧ True ∧ True) ∧
 ∀ (x : Nat),
 (x ≤ y.length ∧ ∀ (j : Nat) (h : j < y.length), j < x → signB y[j] = Bool.true) →
 br (ltI (↑x) (Int.ofNat y.length))
 (so y[Int.toNat ↑x]? fun (val : UInt8) =>
 ∃ (y_1 : UInt8),
 eqI (Int.ofNat (UInt8.toNat val)) (nB y_1) ∧
 True ∧
 br (!signB y_1) (Bool.false = labelB y ∧ True)
 (ck (inR Go.IntKind.i64 (↑x + 1))
 (∃ (y_2 : Nat),
 (y_2 ≤ y.length ∧ ∀ (j : Nat) (h : j < y.length), j < y_2 → signB y[j] = Bool.true) ∧
 Ann.μ (aLabelR y) y_2 < Ann.μ (aLabelR y) x ∧ (y = y ∧ eqI (↑x + 1) ↑y_2 ∧ True) ∧ True ∧ True)))
 (Bool.true = labelB y ∧ True)))))))) := by kernel_rfl
theorem vcFour : (askY (fun (y : Con.Y (cBs fourB)) => cfgS conH1 (annAt F.host_four 5 (aFour y))) 400 F.host_four) = (∀ (y : List UInt8),
 y.length ≤ 100000 →
 ∃ (y_1 : Bs × Int),
 y = y_1.1 ∧
 eqI 46 y_1.2 ∧
 y_1.1.length ≤ 100000 ∧
 br (!Int.ofNat (List.length (splitB y_1.1 y_1.2)) == 4) (Bool.false = fourB y ∧ True)
 ((∃ (x : Nat),
 (x ≤ List.length (splitB y 46) ∧
 ∀ (j : Nat) (h : j < List.length (splitB y 46)), j < x → partB (splitB y 46)[j] = Bool.true) ∧
 (SV.lst Bs (splitB y_1.1 y_1.2) encTx = SV.lst Bs (splitB y 46) encTx ∧
 eqI (Int.ofNat (List.length (splitB y_1.1 y_1.2))) (Int.ofNat (List.length (splitB y 46))) ∧
 eqI 0 ↑x ∧ True) ∧
 True ∧ True) ∧
 ∀ (x : Nat),
 (x ≤ List.length (splitB y 46) ∧
 ∀ (j : Nat) (h : j < List.length (splitB y 46)), j < x → partB (splitB y 46)[j] = Bool.true) →
 br (ltI (↑x) (Int.ofNat (List.length (splitB y 46))))
 (so (splitB y 46)[Int.toNat ↑x]? fun (val : Bs) =>
 ∃ (y_2 : List UInt8),
 val = y_2 ∧
 y_2.length ≤ 1000000 ∧
 br (val == Array.toList (ByteArray.data { data := #[] })) (Bool.false = fourB y ∧ True)
 (∃ (y_3 : List UInt8),
 val = y_3 ∧
 y_3.length ≤ 1000000 ∧
 br (ltI (↑(digsB y_3)) (Int.ofNat val.length)) (Bool.false = fourB y ∧ True)
 (br (ltI 255 (Prod.fst (numB y_2))) (Bool.false = fourB y ∧ True)
 (br (ltI 1 (Int.ofNat val.length))
 (so val[Int.toNat 0]? fun (val : UInt8) =>
 br (Int.ofNat (UInt8.toNat val) == 48) (Bool.false = fourB y ∧ True)
 (ck (inR Go.IntKind.i64 (↑x + 1))
 (∃ (y_4 : Nat),
 (y_4 ≤ List.length (splitB y 46) ∧
 ∀ (j : Nat) (h : j < List.length (splitB y 46)),
 j < y_4 → partB (splitB y 46)[j] = Bool.true) ∧
 Ann.μ (aFour y) y_4 < Ann.μ (aFour y) x ∧
 (SV.lst Bs (splitB y 46) encTx =
 SV.lst Bs (splitB y 46) encTx ∧
 eqI (Int.ofNat (List.length (splitB y 46))) (Int.ofNat (List.length (splitB y 46))) ∧
 eqI (↑x + 1) ↑y_4 ∧ True) ∧
 True ∧ True)))
 (ck (inR Go.IntKind.i64 (↑x + 1))
 (∃ (y_4 : Nat),
 (y_4 ≤ List.length (splitB y 46) ∧
 ∀ (j : Nat) (h : j < List.length (splitB y 46)), j < y_4 → partB (splitB y 46)[j] = Bool.true) ∧
 Ann.μ (aFour y) y_4 < Ann.μ (aFour y) x ∧
 (SV.lst Bs (splitB y 46) encTx =
 SV.lst Bs (splitB y 46) encTx ∧
 eqI (Int.ofNat (List.length (splitB y 46))) (Int.ofNat (List.length (splitB y 46))) ∧
 eqI (↑x + 1) ↑y_4 ∧ True) ∧
 True ∧ True))))))
 (Bool.true = fourB y ∧ True))) := by kernel_rfl
theorem vcFourR : (askY (fun (y : Con.Y (cBs fourB)) => cfgS conH1 (annAt F.ref08_four 5 (aFourR y))) 400 F.ref08_four) = (∀ (y : List UInt8),
 y.length ≤ 100000 →
 ∃ (y_1 : Bs × Int),
 y = y_1.1 ∧
 eqI 46 y_1.2 ∧
 y_1.1.length ≤ 100000 ∧
 br (!Int.ofNat (List.length (splitB y_1.1 y_1.2)) == 4) (Bool.false = fourB y ∧ True)
 ((∃ (x : Nat),
 (x ≤ 4 ∧ ∀ (j : Nat) (h : j < List.length (splitB y 46)), j < x → partB (splitB y 46)[j] = Bool.true) ∧
 (SV.lst Bs (splitB y_1.1 y_1.2) encTx = SV.lst Bs (splitB y 46) encTx ∧
 eqI 0 ↑x ∧ True) ∧
 True ∧ True) ∧
 ∀ (x : Nat),
 (x ≤ 4 ∧ ∀ (j : Nat) (h : j < List.length (splitB y 46)), j < x → partB (splitB y 46)[j] = Bool.true) →
 br (ltI (↑x) 4)
 (so (splitB y 46)[Int.toNat ↑x]? fun (val : Bs) =>
 br (ltI (Int.ofNat val.length) 1) (Bool.false = fourB y ∧ True)
 (so (splitB y 46)[Int.toNat ↑x]? fun (val : Bs) =>
 br (ltI 3 (Int.ofNat val.length)) (Bool.false = fourB y ∧ True)
 (so (splitB y 46)[Int.toNat ↑x]? fun (val : Bs) =>
 so (splitB y 46)[Int.toNat ↑x]? fun (val_1 : Bs) =>
 ∃ (y_2 : List UInt8),
 val = y_2 ∧
 y_2.length ≤ 1000000 ∧
 br (!↑(digsB y_2) == Int.ofNat val_1.length) (Bool.false = fourB y ∧ True)
 (so (splitB y 46)[Int.toNat ↑x]? fun (val : Bs) =>
 ∃ (y_3 : List UInt8),
 val = y_3 ∧
 y_3.length ≤ 1000000 ∧
 br (ltI 255 (Prod.fst (numB y_3))) (Bool.false = fourB y ∧ True)
 (so (splitB y 46)[Int.toNat ↑x]? fun (val : Bs) =>
 ∃ (y_4 : Nat),
 eqI (Prod.fst (numB y_3)) ↑y_4 ∧
 y_4 ≤ 1099511627776 ∧
 br (!textB y_4 == val) (Bool.false = fourB y ∧ True)
 (ck (inR Go.IntKind.i64 (↑x + 1))
 (∃ (y_5 : Nat),
 (y_5 ≤ 4 ∧
 ∀ (j : Nat) (h : j < List.length (splitB y 46)),
 j < y_5 → partB (splitB y 46)[j] = Bool.true) ∧
 Ann.μ (aFourR y) y_5 < Ann.μ (aFourR y) x ∧
 (SV.lst Bs (splitB y 46) encTx =
 SV.lst Bs (splitB y 46) encTx ∧
 eqI (↑x + 1) ↑y_5 ∧ True) ∧
 True ∧ True)))))))
 (Bool.true = fourB y ∧ True))) := by kernel_rfl
theorem vcBrack : (askY (fun (y : Con.Y (cBs brackB)) => cfgS conH1 (annAt F.host_bracket 4 (aBrack y))) 400 F.host_bracket) = (∀ (y : List UInt8),
 y.length ≤ 100000 →
 br (ltI (Int.ofNat y.length) 4) (Bool.false = brackB y ∧ True)
 (br (ltI 47 (Int.ofNat y.length)) (Bool.false = brackB y ∧ True)
 (so y[Int.toNat 0]? fun (val : UInt8) =>
 br (!Int.ofNat (UInt8.toNat val) == 91) (Bool.false = brackB y ∧ True)
 (ck (inR Go.IntKind.i64 (Int.ofNat y.length - 1))
 (ck (nn (Int.ofNat y.length - 1))
 (so y[Int.toNat (Int.ofNat y.length - 1)]? fun (val : UInt8) =>
 br (!Int.ofNat (UInt8.toNat val) == 93) (Bool.false = brackB y ∧ True)
 (ck (inR Go.IntKind.i64 (Int.ofNat y.length - 1))
 (ck (nn (Int.ofNat y.length - 1))
 (ck (Nat.ble (Int.toNat 1) (Int.toNat (Int.ofNat y.length - 1)) && Nat.ble (Int.toNat (Int.ofNat y.length - 1)) y.length)
 ((∃ (x : Nat),
 (x ≤ List.length (List.take (y.length - 2) (List.drop 1 y)) ∧
 ∀ (j : Nat) (h : j < List.length (List.take (y.length - 2) (List.drop 1 y))),
 j < x → hexB (List.take (y.length - 2) (List.drop 1 y))[j] = Bool.true) ∧
 (SV.lst UInt8 (List.take (Int.toNat (Int.ofNat y.length - 1) - Int.toNat 1) (List.drop (Int.toNat 1) y)) encB =
 SV.lst UInt8 (List.take (y.length - 2) (List.drop 1 y)) encB ∧
 eqI (Int.ofNat (List.length (List.take (Int.toNat (Int.ofNat y.length - 1) - Int.toNat 1) (List.drop (Int.toNat 1) y))))
 (Int.ofNat (List.length (List.take (y.length - 2) (List.drop 1 y)))) ∧
 eqI 0 ↑x ∧ True) ∧
 True ∧ True) ∧
 ∀ (x : Nat),
 (x ≤ List.length (List.take (y.length - 2) (List.drop 1 y)) ∧
 ∀ (j : Nat) (h : j < List.length (List.take (y.length - 2) (List.drop 1 y))),
 j < x → hexB (List.take (y.length - 2) (List.drop 1 y))[j] = Bool.true) →
 br (ltI (↑x) (Int.ofNat (List.length (List.take (y.length - 2) (List.drop 1 y)))))
 (so (List.take (y.length - 2) (List.drop 1 y))[Int.toNat ↑x]? fun (val : UInt8) =>
 br (leI 48 (Int.ofNat (UInt8.toNat val)))
 (br (leI (Int.ofNat (UInt8.toNat val)) 57)
 (ck (inR Go.IntKind.i64 (↑x + 1))
 (∃ (y_1 : Nat),
 (y_1 ≤ List.length (List.take (y.length - 2) (List.drop 1 y)) ∧
 ∀ (j : Nat) (h : j < List.length (List.take (y.length - 2) (List.drop 1 y))),
 j < y_1 → hexB (List.take (y.length - 2) (List.drop 1 y))[j] = Bool.true) ∧
 Ann.μ (aBrack y) y_1 < Ann.μ (aBrack y) x ∧
 (SV.lst UInt8 (List.take (y.length - 2) (List.drop 1 y)) encB =
 SV.lst UInt8 (List.take (y.length - 2) (List.drop 1 y)) encB ∧
 eqI (Int.ofNat (List.length (List.take (y.length - 2) (List.drop 1 y))))
 (Int.ofNat (List.length (List.take (y.length - 2) (List.drop 1 y)))) ∧
 eqI (↑x + 1) ↑y_1 ∧ True) ∧
 True ∧ True))
 (br (leI 97 (Int.ofNat (UInt8.toNat val)))
 (br (leI (Int.ofNat (UInt8.toNat val)) 102)
 (ck (inR Go.IntKind.i64 (↑x + 1))
 (∃ (y_1 : Nat),
 (y_1 ≤ List.length (List.take (y.length - 2) (List.drop 1 y)) ∧
 ∀ (j : Nat) (h : j < List.length (List.take (y.length - 2) (List.drop 1 y))),
 j < y_1 → hexB (List.take (y.length - 2) (List.drop 1 y))[j] = Bool.true) ∧
 Ann.μ (aBrack y) y_1 < Ann.μ (aBrack y) x ∧
 (SV.lst UInt8 (List.take (y.length - 2) (List.drop 1 y)) encB =
 SV.lst UInt8 (List.take (y.length - 2) (List.drop 1 y)) encB ∧
 eqI (Int.ofNat (List.length (List.take (y.length - 2) (List.drop 1 y))))
 (Int.ofNat (List.length (List.take (y.length - 2) (List.drop 1 y)))) ∧
 eqI (↑x + 1) ↑y_1 ∧ True) ∧
 True ∧ True))
 (br (Int.ofNat (UInt8.toNat val) == 58)
 (ck (inR Go.IntKind.i64 (↑x + 1))
 (∃ (y_1 : Nat),
 (y_1 ≤ List.length (List.take (y.length - 2) (List.drop 1 y)) ∧
 ∀ (j : Nat) (h : j < List.length (List.take (y.length - 2) (List.drop 1 y))),
 j < y_1 → hexB (List.take (y.length - 2) (List.drop 1 y))[j] = Bool.true) ∧
 Ann.μ (aBrack y) y_1 < Ann.μ (aBrack y) x ∧
 (SV.lst UInt8 (List.take (y.length - 2) (List.drop 1 y)) encB =
 SV.lst UInt8 (List.take (y.length - 2) (List.drop 1 y)) encB ∧
 eqI (Int.ofNat (List.length (List.take (y.length - 2) (List.drop 1 y))))
 (Int.ofNat (List.length (List.take (y.length - 2) (List.drop 1 y)))) ∧
 eqI (↑x + 1) ↑y_1 ∧ True) ∧
 True ∧ True))
 (br (!Int.ofNat (UInt8.toNat val) == 46) (Bool.false = brackB y ∧ True)
 (ck (inR Go.IntKind.i64 (↑x + 1))
 (∃ (y_1 : Nat),
 (y_1 ≤ List.length (List.take (y.length - 2) (List.drop 1 y)) ∧
 ∀ (j : Nat) (h : j < List.length (List.take (y.length - 2) (List.drop 1 y))),
 j < y_1 → hexB (List.take (y.length - 2) (List.drop 1 y))[j] = Bool.true) ∧
 Ann.μ (aBrack y) y_1 < Ann.μ (aBrack y) x ∧
 (SV.lst UInt8 (List.take (y.length - 2) (List.drop 1 y)) encB =
 SV.lst UInt8 (List.take (y.length - 2) (List.drop 1 y)) encB ∧
 eqI (Int.ofNat (List.length (List.take (y.length - 2) (List.drop 1 y))))
 (Int.ofNat (List.length (List.take (y.length - 2) (List.drop 1 y)))) ∧
 eqI (↑x + 1) ↑y_1 ∧ True) ∧
 True ∧ True)))))
 (br (Int.ofNat (UInt8.toNat val) == 58)
 (ck (inR Go.IntKind.i64 (↑x + 1))
 (∃ (y_1 : Nat),
 (y_1 ≤ List.length (List.take (y.length - 2) (List.drop 1 y)) ∧
 ∀ (j : Nat) (h : j < List.length (List.take (y.length - 2) (List.drop 1 y))),
 j < y_1 → hexB (List.take (y.length - 2) (List.drop 1 y))[j] = Bool.true) ∧
 Ann.μ (aBrack y) y_1 < Ann.μ (aBrack y) x ∧
 (SV.lst UInt8 (List.take (y.length - 2) (List.drop 1 y)) encB =
 SV.lst UInt8 (List.take (y.length - 2) (List.drop 1 y)) encB ∧
 eqI (Int.ofNat (List.length (List.take (y.length - 2) (List.drop 1 y))))
 (Int.ofNat (List.length (List.take (y.length - 2) (List.drop 1 y)))) ∧
 eqI (↑x + 1) ↑y_1 ∧ True) ∧
 True ∧ True))
 (br (!Int.ofNat (UInt8.toNat val) == 46) (Bool.false = brackB y ∧ True)
 (ck (inR Go.IntKind.i64 (↑x + 1))
 (∃ (y_1 : Nat),
 (y_1 ≤ List.length (List.take (y.length - 2) (List.drop 1 y)) ∧
 ∀ (j : Nat) (h : j < List.length (List.take (y.length - 2) (List.drop 1 y))),
 j < y_1 → hexB (List.take (y.length - 2) (List.drop 1 y))[j] = Bool.true) ∧
 Ann.μ (aBrack y) y_1 < Ann.μ (aBrack y) x ∧
 (SV.lst UInt8 (List.take (y.length - 2) (List.drop 1 y)) encB =
 SV.lst UInt8 (List.take (y.length - 2) (List.drop 1 y)) encB ∧
 eqI (Int.ofNat (List.length (List.take (y.length - 2) (List.drop 1 y))))
 (Int.ofNat (List.length (List.take (y.length - 2) (List.drop 1 y)))) ∧
 eqI (↑x + 1) ↑y_1 ∧ True) ∧
 True ∧ True))))))
 (br (leI 97 (Int.ofNat (UInt8.toNat val)))
 (br (leI (Int.ofNat (UInt8.toNat val)) 102)
 (ck (inR Go.IntKind.i64 (↑x + 1))
 (∃ (y_1 : Nat),
 (y_1 ≤ List.length (List.take (y.length - 2) (List.drop 1 y)) ∧
 ∀ (j : Nat) (h : j < List.length (List.take (y.length - 2) (List.drop 1 y))),
 j < y_1 → hexB (List.take (y.length - 2) (List.drop 1 y))[j] = Bool.true) ∧
 Ann.μ (aBrack y) y_1 < Ann.μ (aBrack y) x ∧
 (SV.lst UInt8 (List.take (y.length - 2) (List.drop 1 y)) encB =
 SV.lst UInt8 (List.take (y.length - 2) (List.drop 1 y)) encB ∧
 eqI (Int.ofNat (List.length (List.take (y.length - 2) (List.drop 1 y))))
 (Int.ofNat (List.length (List.take (y.length - 2) (List.drop 1 y)))) ∧
 eqI (↑x + 1) ↑y_1 ∧ True) ∧
 True ∧ True))
 (br (Int.ofNat (UInt8.toNat val) == 58)
 (ck (inR Go.IntKind.i64 (↑x + 1))
 (∃ (y_1 : Nat),
 (y_1 ≤ List.length (List.take (y.length - 2) (List.drop 1 y)) ∧
 ∀ (j : Nat) (h : j < List.length (List.take (y.length - 2) (List.drop 1 y))),
 j < y_1 → hexB (List.take (y.length - 2) (List.drop 1 y))[j] = Bool.true) ∧
 Ann.μ (aBrack y) y_1 < Ann.μ (aBrack y) x ∧
 (SV.lst UInt8 (List.take (y.length - 2) (List.drop 1 y)) encB =
 SV.lst UInt8 (List.take (y.length - 2) (List.drop 1 y)) encB ∧
 eqI (Int.ofNat (List.length (List.take (y.length - 2) (List.drop 1 y))))
 (Int.ofNat (List.length (List.take (y.length - 2) (List.drop 1 y)))) ∧
 eqI (↑x + 1) ↑y_1 ∧ True) ∧
 True ∧ True))
 (br (!Int.ofNat (UInt8.toNat val) == 46) (Bool.false = brackB y ∧ True)
 (ck (inR Go.IntKind.i64 (↑x + 1))
 (∃ (y_1 : Nat),
 (y_1 ≤ List.length (List.take (y.length - 2) (List.drop 1 y)) ∧
 ∀ (j : Nat) (h : j < List.length (List.take (y.length - 2) (List.drop 1 y))),
 j < y_1 → hexB (List.take (y.length - 2) (List.drop 1 y))[j] = Bool.true) ∧
 Ann.μ (aBrack y) y_1 < Ann.μ (aBrack y) x ∧
 (SV.lst UInt8 (List.take (y.length - 2) (List.drop 1 y)) encB =
 SV.lst UInt8 (List.take (y.length - 2) (List.drop 1 y)) encB ∧
 eqI (Int.ofNat (List.length (List.take (y.length - 2) (List.drop 1 y))))
 (Int.ofNat (List.length (List.take (y.length - 2) (List.drop 1 y)))) ∧
 eqI (↑x + 1) ↑y_1 ∧ True) ∧
 True ∧ True)))))
 (br (Int.ofNat (UInt8.toNat val) == 58)
 (ck (inR Go.IntKind.i64 (↑x + 1))
 (∃ (y_1 : Nat),
 (y_1 ≤ List.length (List.take (y.length - 2) (List.drop 1 y)) ∧
 ∀ (j : Nat) (h : j < List.length (List.take (y.length - 2) (List.drop 1 y))),
 j < y_1 → hexB (List.take (y.length - 2) (List.drop 1 y))[j] = Bool.true) ∧
 Ann.μ (aBrack y) y_1 < Ann.μ (aBrack y) x ∧
 (SV.lst UInt8 (List.take (y.length - 2) (List.drop 1 y)) encB =
 SV.lst UInt8 (List.take (y.length - 2) (List.drop 1 y)) encB ∧
 eqI (Int.ofNat (List.length (List.take (y.length - 2) (List.drop 1 y))))
 (Int.ofNat (List.length (List.take (y.length - 2) (List.drop 1 y)))) ∧
 eqI (↑x + 1) ↑y_1 ∧ True) ∧
 True ∧ True))
 (br (!Int.ofNat (UInt8.toNat val) == 46) (Bool.false = brackB y ∧ True)
 (ck (inR Go.IntKind.i64 (↑x + 1))
 (∃ (y_1 : Nat),
 (y_1 ≤ List.length (List.take (y.length - 2) (List.drop 1 y)) ∧
 ∀ (j : Nat) (h : j < List.length (List.take (y.length - 2) (List.drop 1 y))),
 j < y_1 → hexB (List.take (y.length - 2) (List.drop 1 y))[j] = Bool.true) ∧
 Ann.μ (aBrack y) y_1 < Ann.μ (aBrack y) x ∧
 (SV.lst UInt8 (List.take (y.length - 2) (List.drop 1 y)) encB =
 SV.lst UInt8 (List.take (y.length - 2) (List.drop 1 y)) encB ∧
 eqI (Int.ofNat (List.length (List.take (y.length - 2) (List.drop 1 y))))
 (Int.ofNat (List.length (List.take (y.length - 2) (List.drop 1 y)))) ∧
 eqI (↑x + 1) ↑y_1 ∧ True) ∧
 True ∧ True))))))
 (Bool.true = brackB y ∧ True))))))))))) := by kernel_rfl
theorem vcBrackR : (askY (fun (y : Con.Y (cBs brackB)) => cfgS con0 (annAt F.ref08_bracket 4 (aBrackR y))) 400 F.ref08_bracket) = (∀ (y : List UInt8),
 y.length ≤ 100000 →
 br (ltI (Int.ofNat y.length) 4) (Bool.false = brackB y ∧ True)
 (br (ltI 47 (Int.ofNat y.length)) (Bool.false = brackB y ∧ True)
 (so y[Int.toNat 0]? fun (val : UInt8) =>
 br (!Int.ofNat (UInt8.toNat val) == 91) (Bool.false = brackB y ∧ True)
 (ck (inR Go.IntKind.i64 (Int.ofNat y.length - 1))
 (ck (nn (Int.ofNat y.length - 1))
 (so y[Int.toNat (Int.ofNat y.length - 1)]? fun (val : UInt8) =>
 br (!Int.ofNat (UInt8.toNat val) == 93) (Bool.false = brackB y ∧ True)
 ((∃ (x : Nat),
 (1 ≤ x ∧ x + 1 ≤ y.length ∧ ∀ (j : Nat) (h : j < y.length), 1 ≤ j → j < x → hexB y[j] = Bool.true) ∧
 (y = y ∧ eqI 1 ↑x ∧ True) ∧ True ∧ True) ∧
 ∀ (x : Nat),
 (1 ≤ x ∧ x + 1 ≤ y.length ∧ ∀ (j : Nat) (h : j < y.length), 1 ≤ j → j < x → hexB y[j] = Bool.true) →
 ck (inR Go.IntKind.i64 (Int.ofNat y.length - 1))
 (br (ltI (↑x) (Int.ofNat y.length - 1))
 (so y[Int.toNat ↑x]? fun (val : UInt8) =>
 br (leI 48 (Int.ofNat (UInt8.toNat val)))
 (br (leI (Int.ofNat (UInt8.toNat val)) 57)
 (ck (inR Go.IntKind.i64 (↑x + 1))
 (∃ (y_1 : Nat),
 (1 ≤ y_1 ∧ y_1 + 1 ≤ y.length ∧ ∀ (j : Nat) (h : j < y.length), 1 ≤ j → j < y_1 → hexB y[j] = Bool.true) ∧
 Ann.μ (aBrackR y) y_1 < Ann.μ (aBrackR y) x ∧ (y = y ∧ eqI (↑x + 1) ↑y_1 ∧ True) ∧ True ∧ True))
 (br (leI 97 (Int.ofNat (UInt8.toNat val)))
 (br (leI (Int.ofNat (UInt8.toNat val)) 102)
 (ck (inR Go.IntKind.i64 (↑x + 1))
 (∃ (y_1 : Nat),
 (1 ≤ y_1 ∧ y_1 + 1 ≤ y.length ∧ ∀ (j : Nat) (h : j < y.length), 1 ≤ j → j < y_1 → hexB y[j] = Bool.true) ∧
 Ann.μ (aBrackR y) y_1 < Ann.μ (aBrackR y) x ∧ (y = y ∧ eqI (↑x + 1) ↑y_1 ∧ True) ∧ True ∧ True))
 (br (Int.ofNat (UInt8.toNat val) == 58)
 (ck (inR Go.IntKind.i64 (↑x + 1))
 (∃ (y_1 : Nat),
 (1 ≤ y_1 ∧ y_1 + 1 ≤ y.length ∧ ∀ (j : Nat) (h : j < y.length), 1 ≤ j → j < y_1 → hexB y[j] = Bool.true) ∧
 Ann.μ (aBrackR y) y_1 < Ann.μ (aBrackR y) x ∧
 (y = y ∧ eqI (↑x + 1) ↑y_1 ∧ True) ∧ True ∧ True))
 (br (!Int.ofNat (UInt8.toNat val) == 46) (Bool.false = brackB y ∧ True)
 (ck (inR Go.IntKind.i64 (↑x + 1))
 (∃ (y_1 : Nat),
 (1 ≤ y_1 ∧ y_1 + 1 ≤ y.length ∧ ∀ (j : Nat) (h : j < y.length), 1 ≤ j → j < y_1 → hexB y[j] = Bool.true) ∧
 Ann.μ (aBrackR y) y_1 < Ann.μ (aBrackR y) x ∧
 (y = y ∧ eqI (↑x + 1) ↑y_1 ∧ True) ∧ True ∧ True)))))
 (br (Int.ofNat (UInt8.toNat val) == 58)
 (ck (inR Go.IntKind.i64 (↑x + 1))
 (∃ (y_1 : Nat),
 (1 ≤ y_1 ∧ y_1 + 1 ≤ y.length ∧ ∀ (j : Nat) (h : j < y.length), 1 ≤ j → j < y_1 → hexB y[j] = Bool.true) ∧
 Ann.μ (aBrackR y) y_1 < Ann.μ (aBrackR y) x ∧ (y = y ∧ eqI (↑x + 1) ↑y_1 ∧ True) ∧ True ∧ True))
 (br (!Int.ofNat (UInt8.toNat val) == 46) (Bool.false = brackB y ∧ True)
 (ck (inR Go.IntKind.i64 (↑x + 1))
 (∃ (y_1 : Nat),
 (1 ≤ y_1 ∧ y_1 + 1 ≤ y.length ∧ ∀ (j : Nat) (h : j < y.length), 1 ≤ j → j < y_1 → hexB y[j] = Bool.true) ∧
 Ann.μ (aBrackR y) y_1 < Ann.μ (aBrackR y) x ∧
 (y = y ∧ eqI (↑x + 1) ↑y_1 ∧ True) ∧ True ∧ True))))))
 (br (leI 97 (Int.ofNat (UInt8.toNat val)))
 (br (leI (Int.ofNat (UInt8.toNat val)) 102)
 (ck (inR Go.IntKind.i64 (↑x + 1))
 (∃ (y_1 : Nat),
 (1 ≤ y_1 ∧ y_1 + 1 ≤ y.length ∧ ∀ (j : Nat) (h : j < y.length), 1 ≤ j → j < y_1 → hexB y[j] = Bool.true) ∧
 Ann.μ (aBrackR y) y_1 < Ann.μ (aBrackR y) x ∧ (y = y ∧ eqI (↑x + 1) ↑y_1 ∧ True) ∧ True ∧ True))
 (br (Int.ofNat (UInt8.toNat val) == 58)
 (ck (inR Go.IntKind.i64 (↑x + 1))
 (∃ (y_1 : Nat),
 (1 ≤ y_1 ∧ y_1 + 1 ≤ y.length ∧ ∀ (j : Nat) (h : j < y.length), 1 ≤ j → j < y_1 → hexB y[j] = Bool.true) ∧
 Ann.μ (aBrackR y) y_1 < Ann.μ (aBrackR y) x ∧ (y = y ∧ eqI (↑x + 1) ↑y_1 ∧ True) ∧ True ∧ True))
 (br (!Int.ofNat (UInt8.toNat val) == 46) (Bool.false = brackB y ∧ True)
 (ck (inR Go.IntKind.i64 (↑x + 1))
 (∃ (y_1 : Nat),
 (1 ≤ y_1 ∧ y_1 + 1 ≤ y.length ∧ ∀ (j : Nat) (h : j < y.length), 1 ≤ j → j < y_1 → hexB y[j] = Bool.true) ∧
 Ann.μ (aBrackR y) y_1 < Ann.μ (aBrackR y) x ∧
 (y = y ∧ eqI (↑x + 1) ↑y_1 ∧ True) ∧ True ∧ True)))))
 (br (Int.ofNat (UInt8.toNat val) == 58)
 (ck (inR Go.IntKind.i64 (↑x + 1))
 (∃ (y_1 : Nat),
 (1 ≤ y_1 ∧ y_1 + 1 ≤ y.length ∧ ∀ (j : Nat) (h : j < y.length), 1 ≤ j → j < y_1 → hexB y[j] = Bool.true) ∧
 Ann.μ (aBrackR y) y_1 < Ann.μ (aBrackR y) x ∧ (y = y ∧ eqI (↑x + 1) ↑y_1 ∧ True) ∧ True ∧ True))
 (br (!Int.ofNat (UInt8.toNat val) == 46) (Bool.false = brackB y ∧ True)
 (ck (inR Go.IntKind.i64 (↑x + 1))
 (∃ (y_1 : Nat),
 (1 ≤ y_1 ∧ y_1 + 1 ≤ y.length ∧ ∀ (j : Nat) (h : j < y.length), 1 ≤ j → j < y_1 → hexB y[j] = Bool.true) ∧
 Ann.μ (aBrackR y) y_1 < Ann.μ (aBrackR y) x ∧
 (y = y ∧ eqI (↑x + 1) ↑y_1 ∧ True) ∧ True ∧ True))))))
 (Bool.true = brackB y ∧ True))))))))) := by kernel_rfl
theorem vcAddrR : (askY (fun (y : Con.Y (cBs addrB)) => cfgS conH2 (noAnn y)) 400 F.ref08_Address) = (∀ (y : List UInt8),
 y.length ≤ 100000 →
 ∃ (y_1 : List UInt8),
 y = y_1 ∧
 y_1.length ≤ 100000 ∧
 br (fourB y_1) (Bool.true = addrB y ∧ True)
 (∃ (y_2 : List UInt8), y = y_2 ∧ y_2.length ≤ 100000 ∧ brackB y_2 = addrB y ∧ True)) := by kernel_rfl
theorem vcAddr : (askY (fun (y : Con.Y (cBs addrB)) => cfgS conH2 (noAnn y)) 400 F.host_Address) = (∀ (y : List UInt8),
 y.length ≤ 100000 →
 ∃ (y_1 : List UInt8),
 y = y_1 ∧
 y_1.length ≤ 100000 ∧
 br (fourB y_1) (Bool.true = addrB y ∧ True)
 (∃ (y_2 : List UInt8), y = y_2 ∧ y_2.length ≤ 100000 ∧ brackB y_2 = addrB y ∧ True)) := by kernel_rfl
theorem vcName : (askY (fun (y : Con.Y (cBs nameB)) => cfgS conH3 (annAt F.host_name 4 (aName y))) 400 F.host_name) = (∀ (y : List UInt8),
 y.length ≤ 100000 →
 br (ltI 256 (Int.ofNat y.length)) (Bool.false = nameB y ∧ True)
 (∃ (y_1 : List UInt8),
 y = y_1 ∧
 y_1.length ≤ 100000 ∧
 br (addrB y_1) (Bool.false = nameB y ∧ True)
 (∃ (y_2 : Bs × Int),
 y = y_2.1 ∧
 eqI 46 y_2.2 ∧
 y_2.1.length ≤ 100000 ∧
 (∃ (x : Nat),
 (x ≤ List.length (splitB y 46) ∧
 ∀ (j : Nat) (h : j < List.length (splitB y 46)), j < x → labelB (splitB y 46)[j] = Bool.true) ∧
 (SV.lst Bs (splitB y_2.1 y_2.2) encTx =
 SV.lst Bs (splitB y 46) encTx ∧
 eqI (Int.ofNat (List.length (splitB y_2.1 y_2.2))) (Int.ofNat (List.length (splitB y 46))) ∧
 eqI 0 ↑x ∧ True) ∧
 True ∧ True) ∧
 ∀ (x : Nat),
 (x ≤ List.length (splitB y 46) ∧
 ∀ (j : Nat) (h : j < List.length (splitB y 46)), j < x → labelB (splitB y 46)[j] = Bool.true) →
 br (ltI (↑x) (Int.ofNat (List.length (splitB y 46))))
 (so (splitB y 46)[Int.toNat ↑x]? fun (val : Bs) =>
 ∃ (y_3 : List UInt8),
 val = y_3 ∧
 y_3.length ≤ 100000 ∧
 br (!labelB y_3) (Bool.false = nameB y ∧ True)
 (ck (inR Go.IntKind.i64 (↑x + 1))
 (∃ (y_4 : Nat),
 (y_4 ≤ List.length (splitB y 46) ∧
 ∀ (j : Nat) (h : j < List.length (splitB y 46)), j < y_4 → labelB (splitB y 46)[j] = Bool.true) ∧
 Ann.μ (aName y) y_4 < Ann.μ (aName y) x ∧
 (SV.lst Bs (splitB y 46) encTx =
 SV.lst Bs (splitB y 46) encTx ∧
 eqI (Int.ofNat (List.length (splitB y 46))) (Int.ofNat (List.length (splitB y 46))) ∧
 eqI (↑x + 1) ↑y_4 ∧ True) ∧
 True ∧ True)))
 (Bool.true = nameB y ∧ True)))) := by kernel_rfl
theorem vcNameR : (askY (fun (y : Con.Y (cBs nameB)) => cfgS conH2 (annAt F.ref08_Name 5 (aNameR y))) 400 F.ref08_Name) = (∀ (y : List UInt8),
 y.length ≤ 100000 →
 br (ltI 256 (Int.ofNat y.length)) (Bool.false = nameB y ∧ True)
 (∃ (y_1 : List UInt8),
 y = y_1 ∧
 y_1.length ≤ 100000 ∧
 br (fourB y_1) (Bool.false = nameB y ∧ True)
 (∃ (y_2 : Bs × Int),
 y = y_2.1 ∧
 eqI 46 y_2.2 ∧
 y_2.1.length ≤ 100000 ∧
 (∃ (x : Nat),
 (x ≤ List.length (splitB y 46) ∧
 ∀ (j : Nat) (h : j < List.length (splitB y 46)), j < x → labelB (splitB y 46)[j] = Bool.true) ∧
 (SV.lst Bs (splitB y_2.1 y_2.2) encTx =
 SV.lst Bs (splitB y 46) encTx ∧
 eqI 0 ↑x ∧ True) ∧
 True ∧ True) ∧
 ∀ (x : Nat),
 (x ≤ List.length (splitB y 46) ∧
 ∀ (j : Nat) (h : j < List.length (splitB y 46)), j < x → labelB (splitB y 46)[j] = Bool.true) →
 br (ltI (↑x) (Int.ofNat (List.length (splitB y 46))))
 (so (splitB y 46)[Int.toNat ↑x]? fun (val : Bs) =>
 ∃ (y_3 : List UInt8),
 val = y_3 ∧
 y_3.length ≤ 100000 ∧
 br (!labelB y_3) (Bool.false = nameB y ∧ True)
 (ck (inR Go.IntKind.i64 (↑x + 1))
 (∃ (y_4 : Nat),
 (y_4 ≤ List.length (splitB y 46) ∧
 ∀ (j : Nat) (h : j < List.length (splitB y 46)), j < y_4 → labelB (splitB y 46)[j] = Bool.true) ∧
 Ann.μ (aNameR y) y_4 < Ann.μ (aNameR y) x ∧
 (SV.lst Bs (splitB y 46) encTx =
 SV.lst Bs (splitB y 46) encTx ∧
 eqI (↑x + 1) ↑y_4 ∧ True) ∧
 True ∧ True)))
 (Bool.true = nameB y ∧ True)))) := by kernel_rfl
theorem vcPrefix : (askY (fun (y : Con.Y cPrefix) => cfgS con0 (noAnn y)) 400 F.internal_stringslite_HasPrefix) = (∀ (y : Bs × Bs),
 y.1.length ≤ 100000 ∧ y.2.length ≤ 100000 →
 br (leI (Int.ofNat y.2.length) (Int.ofNat y.1.length))
 (ck (Nat.ble (Int.toNat (Int.ofNat y.2.length)) y.1.length)
 ((List.take (Int.toNat (Int.ofNat y.2.length)) y.1 == y.2) =
 Decidable.decide (List.take y.2.length y.1 = y.2) ∧
 True))
 (Bool.false = Decidable.decide (List.take y.2.length y.1 = y.2) ∧ True)) := by kernel_rfl
theorem vcPrefix2 : (askY (fun (y : Con.Y cPrefix) => cfgS conH4 (noAnn y)) 400 F.strings_HasPrefix) = (∀ (y : Bs × Bs),
 y.1.length ≤ 100000 ∧ y.2.length ≤ 100000 →
 ∃ (y_1 : Bs × Bs),
 y.1 = y_1.1 ∧
 y.2 = y_1.2 ∧
 (y_1.1.length ≤ 100000 ∧ y_1.2.length ≤ 100000) ∧
 Decidable.decide (List.take y_1.2.length y_1.1 = y_1.2) =
 Decidable.decide (List.take y.2.length y.1 = y.2) ∧
 True) := by kernel_rfl
theorem vcLabels : (askY (fun (y : Con.Y cLabels) => cfgS conH4 (noAnn y)) 400 F.host_Labels) = (∀ (y : List UInt8),
 y.length ≤ 100000 →
 ∃ (y_1 : List UInt8),
 y = y_1 ∧
 y_1.length ≤ 100000 ∧
 br (!nameB y_1) ((if nameB y = Bool.true then splitB y 46 else []) = [] ∧ True)
 (∃ (y_2 : Bs × Int),
 y = y_2.1 ∧
 eqI 46 y_2.2 ∧
 y_2.1.length ≤ 100000 ∧
 SV.lst Bs (splitB y_2.1 y_2.2) encTx =
 SV.lst Bs (if nameB y = Bool.true then splitB y 46 else []) encTx ∧
 True)) := by kernel_rfl
theorem vcSplit9 : (askY (fun (y : Con.Y cSplit9) => cfgS con0 (noAnn y)) 400 F.ref09_split) = (∀ (y : List UInt8),
 y.length ≤ 100000 →
 br (ltI 2 (Int.ofNat y.length))
 (ck (Nat.ble (Int.toNat 2) y.length)
 (br (List.take (Int.toNat 2) y == Array.toList (ByteArray.data { data := #[42, 46] }))
 (ck (Nat.ble (Int.toNat 2) y.length) (eqI 42 (Prod.fst (split9 y)) ∧ List.drop (Int.toNat 2) y = Prod.snd (split9 y) ∧ True))
 (br (ltI 1 (Int.ofNat y.length))
 (so y[Int.toNat 0]? fun (val : UInt8) =>
 br (Int.ofNat (UInt8.toNat val) == 33)
 (ck (Nat.ble (Int.toNat 1) y.length) (eqI 33 (Prod.fst (split9 y)) ∧ List.drop (Int.toNat 1) y = Prod.snd (split9 y) ∧ True))
 (eqI 0 (Prod.fst (split9 y)) ∧ y = Prod.snd (split9 y) ∧ True))
 (eqI 0 (Prod.fst (split9 y)) ∧ y = Prod.snd (split9 y) ∧ True))))
 (br (ltI 1 (Int.ofNat y.length))
 (so y[Int.toNat 0]? fun (val : UInt8) =>
 br (Int.ofNat (UInt8.toNat val) == 33)
 (ck (Nat.ble (Int.toNat 1) y.length) (eqI 33 (Prod.fst (split9 y)) ∧ List.drop (Int.toNat 1) y = Prod.snd (split9 y) ∧ True))
 (eqI 0 (Prod.fst (split9 y)) ∧ y = Prod.snd (split9 y) ∧ True))
 (eqI 0 (Prod.fst (split9 y)) ∧ y = Prod.snd (split9 y) ∧ True))) := by kernel_rfl
theorem vcParse : (askY (fun (y : Con.Y cParse) => cfgS conH5 (noAnn y)) 400 F.suffix_parse) = (∀ (y : List UInt8),
 y.length ≤ 100000 →
 ∃ (y_1 : Bs × Bs),
 y = y_1.1 ∧
 Array.toList (ByteArray.data { data := #[42, 46] }) = y_1.2 ∧
 (y_1.1.length ≤ 100000 ∧ y_1.2.length ≤ 100000) ∧
 br (Decidable.decide (List.take y_1.2.length y_1.1 = y_1.2))
 (ck (Nat.ble (Int.toNat 2) y.length)
 (∃ (y_2 : List UInt8),
 List.drop (Int.toNat 2) y = y_2 ∧
 y_2.length ≤ 100000 ∧
 br (ltI 0 (Int.ofNat (List.length (if nameB y_2 = Bool.true then splitB y_2 46 else []))))
 (List.drop (Int.toNat 2) y = Prod.fst (ruleB y) ∧
 Bool.true = Prod.fst (Prod.snd (ruleB y)) ∧ Bool.false = Prod.snd (Prod.snd (ruleB y)) ∧ Bool.true = isRule y ∧ True)
 (List.drop (Int.toNat 2) y = Prod.fst (ruleB y) ∧
 Bool.true = Prod.fst (Prod.snd (ruleB y)) ∧ Bool.false = Prod.snd (Prod.snd (ruleB y)) ∧ Bool.false = isRule y ∧ True)))
 (∃ (y_2 : Bs × Bs),
 y = y_2.1 ∧
 Array.toList (ByteArray.data { data := #[33] }) = y_2.2 ∧
 (y_2.1.length ≤ 100000 ∧ y_2.2.length ≤ 100000) ∧
 br (Decidable.decide (List.take y_2.2.length y_2.1 = y_2.2))
 (ck (Nat.ble (Int.toNat 1) y.length)
 (∃ (y_3 : List UInt8),
 List.drop (Int.toNat 1) y = y_3 ∧
 y_3.length ≤ 100000 ∧
 br (ltI 0 (Int.ofNat (List.length (if nameB y_3 = Bool.true then splitB y_3 46 else []))))
 (List.drop (Int.toNat 1) y = Prod.fst (ruleB y) ∧
 Bool.false = Prod.fst (Prod.snd (ruleB y)) ∧
 Bool.true = Prod.snd (Prod.snd (ruleB y)) ∧
 ltI 1 (Int.ofNat (List.length (if nameB y_3 = Bool.true then splitB y_3 46 else []))) = isRule y ∧ True)
 (List.drop (Int.toNat 1) y = Prod.fst (ruleB y) ∧
 Bool.false = Prod.fst (Prod.snd (ruleB y)) ∧
 Bool.true = Prod.snd (Prod.snd (ruleB y)) ∧ Bool.false = isRule y ∧ True)))
 (∃ (y_3 : List UInt8),
 y = y_3 ∧
 y_3.length ≤ 100000 ∧
 br (ltI 0 (Int.ofNat (List.length (if nameB y_3 = Bool.true then splitB y_3 46 else []))))
 (y = Prod.fst (ruleB y) ∧
 Bool.false = Prod.fst (Prod.snd (ruleB y)) ∧
 Bool.false = Prod.snd (Prod.snd (ruleB y)) ∧ Bool.true = isRule y ∧ True)
 (y = Prod.fst (ruleB y) ∧
 Bool.false = Prod.fst (Prod.snd (ruleB y)) ∧
 Bool.false = Prod.snd (Prod.snd (ruleB y)) ∧ Bool.false = isRule y ∧ True)))) := by kernel_rfl
theorem vcRule : (askY (fun (y : Con.Y (cBs isRule)) => cfgS conH5 (noAnn y)) 400 F.ref09_Rule) = (∀ (y : List UInt8),
 y.length ≤ 100000 →
 ∃ (y_1 : List UInt8),
 y = y_1 ∧
 y_1.length ≤ 100000 ∧
 ∃ (y_2 : List UInt8),
 Prod.snd (split9 y_1) = y_2 ∧
 y_2.length ≤ 100000 ∧
 br (nameB y_2)
 (br (!Prod.fst (split9 y_1) == 33) (Bool.true = isRule y ∧ True)
 (∃ (y_3 : Bs × Int),
 Prod.snd (split9 y_1) = y_3.1 ∧
 eqI 46 y_3.2 ∧
 y_3.1.length ≤ 1000000 ∧ leI 0 (findB y_3.1 y_3.2) = isRule y ∧ True))
 (Bool.false = isRule y ∧ True)) := by kernel_rfl
theorem vcCheckR : (askY (fun (y : Con.Y cCheckR) => cfgS conH6 (annAt F.suffix_Check 4 (aCheckR y))) 400 F.suffix_Check) = (∀ (y : List Bs),
 (y.length ≤ 100000 ∧ ∀ (s : Bs), s ∈ y → s.length ≤ 100000) →
 br (ltI 256 (Int.ofNat y.length)) (eqI 3 (checkR y) ∧ True)
 ((∃ (x : Nat),
 (x ≤ y.length ∧ ∀ (j : Nat) (h : j < y.length), j < x → isRule y[j] = Bool.true) ∧
 (SV.lst Bs y encTx = SV.lst Bs y encTx ∧
 eqI (Int.ofNat y.length) (Int.ofNat y.length) ∧ eqI 0 ↑x ∧ True) ∧
 True ∧ True) ∧
 ∀ (x : Nat),
 (x ≤ y.length ∧ ∀ (j : Nat) (h : j < y.length), j < x → isRule y[j] = Bool.true) →
 br (ltI (↑x) (Int.ofNat y.length))
 (so y[Int.toNat ↑x]? fun (val : Bs) =>
 ∃ (y_1 : List UInt8),
 val = y_1 ∧
 y_1.length ≤ 100000 ∧
 br (!isRule y_1) (eqI 1 (checkR y) ∧ True)
 (ck (inR Go.IntKind.i64 (↑x + 1))
 (∃ (y_2 : Nat),
 (y_2 ≤ y.length ∧ ∀ (j : Nat) (h : j < y.length), j < y_2 → isRule y[j] = Bool.true) ∧
 Ann.μ (aCheckR y) y_2 < Ann.μ (aCheckR y) x ∧
 (SV.lst Bs y encTx = SV.lst Bs y encTx ∧
 eqI (Int.ofNat y.length) (Int.ofNat y.length) ∧ eqI (↑x + 1) ↑y_2 ∧ True) ∧
 True ∧ True)))
 (eqI 0 (checkR y) ∧ True))) := by kernel_rfl
theorem vcRight : (askY (fun (y : Con.Y cRight) => cfgS conH6 (annAt F.ref09_Right 2 (aRight y))) 400 F.ref09_Right) = (∀ (y : List Bs),
 (y.length ≤ 100000 ∧ ∀ (s : Bs), s ∈ y → s.length ≤ 100000) →
 (∃ (x : Nat),
 (x ≤ y.length ∧ ∀ (j : Nat) (h : j < y.length), j < x → isRule y[j] = Bool.true) ∧
 (SV.lst Bs y encTx = SV.lst Bs y encTx ∧ eqI 0 ↑x ∧ True) ∧ True ∧ True) ∧
 ∀ (x : Nat),
 (x ≤ y.length ∧ ∀ (j : Nat) (h : j < y.length), j < x → isRule y[j] = Bool.true) →
 br (ltI (↑x) (Int.ofNat y.length))
 (so y[Int.toNat ↑x]? fun (val : Bs) =>
 ∃ (y_1 : List UInt8),
 val = y_1 ∧
 y_1.length ≤ 100000 ∧
 br (!isRule y_1) (Bool.false = List.all y isRule ∧ True)
 (ck (inR Go.IntKind.i64 (↑x + 1))
 (∃ (y_2 : Nat),
 (y_2 ≤ y.length ∧ ∀ (j : Nat) (h : j < y.length), j < y_2 → isRule y[j] = Bool.true) ∧
 Ann.μ (aRight y) y_2 < Ann.μ (aRight y) x ∧
 (SV.lst Bs y encTx = SV.lst Bs y encTx ∧ eqI (↑x + 1) ↑y_2 ∧ True) ∧ True ∧ True)))
 (Bool.true = List.all y isRule ∧ True)) := by kernel_rfl
end Go.Proofs

set_option maxRecDepth 100000
namespace Go.Proofs
open Go Go.Am Go.RowKit Go.Sy
variable [Inhabited DrP]
section
variable {α : Type} {l : List α} {p : α → Bool} {x : Nat}
theorem all_done (h : ∀ (j : Nat) (h : j < l.length), j < x → p l[j] = true) (hx : ¬ (x : Int) < Int.ofNat l.length) : l.all p = true := by
  rw [List.all_eq_true]
  intro a ha
  obtain ⟨j, hj, rfl⟩ := List.getElem_of_mem ha
  exact h j hj (by simp only [Int.ofNat_eq_natCast] at hx; omega)
theorem all_fail (h : x < l.length) (hp : p l[x] = false) : l.all p = false := by
  rw [Bool.eq_false_iff]
  intro ha
  rw [List.all_eq_true] at ha
  rw [ha _ (List.getElem_mem h)] at hp
  cases hp
theorem all_next (h : ∀ (j : Nat) (h : j < l.length), j < x → p l[j] = true) (hx : x < l.length) (hp : p l[x] = true) : ∀ (j : Nat) (h : j < l.length), j < x + 1 → p l[j] = true := by
  intro j hj hjx
  by_cases e : j = x
  · subst e; exact hp
  · exact h j hj (by omega)
end
theorem lt_of_ltI {x n : Nat} (h : ltI (x : Int) (Int.ofNat n) = true) : x < n := by
  rw [ltI_eq, decide_eq_true_eq, Int.ofNat_eq_natCast] at h
  omega
theorem ge_of_ltI {x n : Nat} (h : ltI (x : Int) (Int.ofNat n) = false) : ¬ (x : Int) < Int.ofNat n := by
  rw [ltI_eq, decide_eq_false_iff_not] at h
  exact h
theorem get_ok {α : Type} {l : List α} {x : Nat} (h : x < l.length) : l[Int.toNat (x : Int)]? = some l[x] := by simp [h]
theorem okSignE : Go.Sy.ConOK Tryz.prog Tryz.tab F.host_sign cSignE := askY_ok (cfg := fun y => cfgS con0 (noAnn y)) Tryz.prOk (fun _ => rfl) (fun _ => con0_ok) (n := 400) (by
  rw [vcSignE]
  rintro ⟨b, e⟩ -
  simp only [br_iff, leI_eq, signE, and_true, decide_eq_true_eq, decide_eq_false_iff_not, beq_iff_eq, beq_eq_false_iff_ne]
  refine ⟨fun h => ⟨fun h2 => by simp [h, h2], fun h2 => by simp [h, h2]⟩, fun h => ⟨fun h1 => ⟨fun h2 => ?_, fun h2 => ⟨fun h3 => ⟨fun h4 => ?_, fun h4 => ⟨fun h5 => ?_, fun h5 => ?_⟩⟩, fun h3 => ⟨fun h5 => ?_, fun h5 => ?_⟩⟩⟩, fun h1 => ⟨fun h3 => ⟨fun h4 => ?_, fun h4 => ⟨fun h5 => ?_, fun h5 => ?_⟩⟩, fun h3 => ⟨fun h5 => ?_, fun h5 => ?_⟩⟩⟩⟩
  all_goals (simp_all <;> omega))
theorem okSign : Go.Sy.ConOK Tryz.prog Tryz.tab F.ref08_sign cSign := askY_ok (cfg := fun y => cfgS con0 (noAnn y)) Tryz.prOk (fun _ => rfl) (fun _ => con0_ok) (n := 400) (by
  rw [vcSign]
  intro b _
  simp only [br_iff, leI_eq, signB, and_true, decide_eq_true_eq, decide_eq_false_iff_not, beq_iff_eq, beq_eq_false_iff_ne]
  refine ⟨fun h1 => ⟨fun h2 => ?_, fun h2 => ⟨fun h3 => ⟨fun h4 => ?_, fun h4 => ⟨fun h5 => ?_, fun h5 => ?_⟩⟩, fun h3 => ⟨fun h5 => ?_, fun h5 => ?_⟩⟩⟩, fun h1 => ⟨fun h3 => ⟨fun h4 => ?_, fun h4 => ⟨fun h5 => ?_, fun h5 => ?_⟩⟩, fun h3 => ⟨fun h5 => ?_, fun h5 => ?_⟩⟩⟩
  all_goals (simp_all <;> omega))
theorem conH1_ok : ∀ g C, conH1 g = some C → Go.Sy.ConOK Tryz.prog Tryz.tab g C := con_step okSignE (con_step okSign conA5_ok)
theorem signE_eq (b : UInt8) (e : Bool) : signE (nB b) e = (signB b && !(nB b == 45 && e)) := by
  unfold signE signB
  by_cases h : nB b = 45
  · simp [h]
  · have : (nB b == 45) = false := by simpa using h
    simp [h, this]
theorem eq45 (b : UInt8) : b = 45 ↔ nB b = 45 := ⟨fun h => by rw [h]; rfl, fun h => nB_inj (h.trans rfl)⟩
theorem label_iff (s : Bs) (h0 : s ≠ []) (h63 : s.length ≤ 63) : labelB s = true ↔ ∀ (j : Nat) (h : j < s.length), signE (nB s[j]) (j == 0 || j == s.length - 1) = true := by
  have hp : 0 < s.length := List.length_pos_iff.2 h0
  have hhd : s.head? = some s[0] := by rw [List.head?_eq_getElem?]; simp [hp]
  have htl : s.getLast? = some (s[s.length - 1]'(by omega)) := by rw [List.getLast?_eq_getElem?]; simp [hp]
  unfold labelB
  rw [hhd, htl]
  simp only [Bool.and_eq_true, bne_iff_ne, ne_eq, h0, not_false_eq_true, decide_eq_true_eq, h63, true_and, List.all_eq_true, Option.some.injEq]
  constructor
  · rintro ⟨⟨h1, h2⟩, h3⟩ j hj
    rw [signE_eq, h1 _ (List.getElem_mem hj)]
    by_cases e0 : j = 0
    · subst e0
      rw [eq45] at h2
      simp [h2]
    · by_cases e1 : j = s.length - 1
      · subst e1
        rw [eq45] at h3
        simp [h3]
      · simp [e0, e1]
  · intro h
    refine ⟨⟨fun b hb => ?_, ?_⟩, ?_⟩
    · obtain ⟨j, hj, rfl⟩ := List.getElem_of_mem hb
      have := h j hj
      rw [signE_eq, Bool.and_eq_true] at this
      exact this.1
    · have := h 0 hp
      rw [signE_eq, Bool.and_eq_true] at this
      rw [eq45]
      have h2 := this.2
      simpa using h2
    · have := h (s.length - 1) (by omega)
      rw [signE_eq, Bool.and_eq_true] at this
      rw [eq45]
      have h2 := this.2
      simpa using h2
theorem label_fail {s : Bs} (h0 : s ≠ []) (h63 : s.length ≤ 63) {x : Nat} (h : x < s.length) (hx : signE (nB s[x]) (x == 0 || x == s.length - 1) = false) : labelB s = false := by
  rw [Bool.eq_false_iff]
  intro hl
  rw [(label_iff s h0 h63).1 hl x h] at hx
  cases hx
theorem label_big {s : Bs} (h : 63 < s.length) : labelB s = false := by
  unfold labelB
  have : decide (s.length ≤ 63) = false := by simp; omega
  simp [this]
theorem okLabel : Go.Sy.ConOK Tryz.prog Tryz.tab F.host_label (cBs labelB) := askY_ok (cfg := fun y => cfgS conH1 (annAt F.host_label 4 (aLabel y))) Tryz.prOk (fun _ => rfl) (fun _ => conH1_ok) (n := 400) (by
  rw [vcLabel]
  intro s hpre
  have hpre : s.length ≤ 100000 := hpre
  refine br_iff.2 ⟨fun h => ?_, fun h => br_iff.2 ⟨fun h2 => ?_, fun h2 => ⟨⟨0, ⟨by simp, fun j h hj => by omega⟩, ⟨rfl, rfl, rfl, trivial⟩, trivial, trivial⟩, ?_⟩⟩⟩
  · have : s = [] := by simpa using h
    subst this
    exact ⟨rfl, trivial⟩
  · rw [ltI_eq, decide_eq_true_eq, Int.ofNat_eq_natCast] at h2
    exact ⟨(label_big (by omega)).symm, trivial⟩
  have h0 : s ≠ [] := by simpa using h
  have h63 : s.length ≤ 63 := by
    rw [ltI_eq, decide_eq_false_iff_not, Int.ofNat_eq_natCast] at h2
    omega
  rintro x ⟨hx, hall⟩
  refine br_iff.2 ⟨fun hlt => so_iff.2 ⟨_, get_ok (lt_of_ltI hlt), ?_⟩, fun hge => ⟨((label_iff s h0 h63).2 fun j hj => hall j hj (by have := ge_of_ltI hge; simp only [Int.ofNat_eq_natCast] at this; omega)).symm, trivial⟩⟩
  have hlt' := lt_of_ltI hlt
  have next : signE (nB s[x]) (x == 0 || x == s.length - 1) = true → ∃ (y_2 : Nat), (y_2 ≤ s.length ∧ ∀ (j : Nat) (h : j < s.length), j < y_2 → signE (nB s[j]) (j == 0 || j == s.length - 1) = true) ∧ (aLabel s).μ y_2 < (aLabel s).μ x ∧ (s = s ∧ eqI (Int.ofNat s.length) (Int.ofNat s.length) ∧ eqI (↑x + 1) ↑y_2 ∧ True) ∧ True ∧ True := by
    intro he
    refine ⟨x + 1, ⟨by omega, fun j hj hjx => ?_⟩, ?_, ⟨rfl, rfl, by simp [eqI], trivial⟩, trivial, trivial⟩
    · by_cases e : j = x
      · subst e; exact he
      · exact hall j hj (by omega)
    · show s.length - (x + 1) < s.length - x
      omega
  refine br_iff.2 ⟨fun hx0 => ⟨(s[x], true), rfl, rfl, trivial, br_iff.2 ⟨fun hs => ?_, fun hs => ck_iff.2 ⟨inR_nat x (by omega), next ?_⟩⟩⟩, fun hx0 => ck_iff.2 ⟨by rw [inR64, Int.ofNat_eq_natCast]; omega, (s[x], (x : Int) == Int.ofNat s.length - 1), rfl, rfl, trivial, br_iff.2 ⟨fun hs => ?_, fun hs => ck_iff.2 ⟨inR_nat x (by omega), next ?_⟩⟩⟩⟩
  · have : x = 0 := by simpa using hx0
    subst this
    exact ⟨(label_fail h0 h63 hlt' (by simpa using hs)).symm, trivial⟩
  · have : x = 0 := by simpa using hx0
    subst this
    simpa using hs
  · have hx1 : ¬ x = 0 := by simpa using hx0
    have e : ((x : Int) == Int.ofNat s.length - 1) = (x == 0 || x == s.length - 1) := by
      rw [Bool.eq_iff_iff]
      simp [hx1]
      omega
    rw [e] at hs
    exact ⟨(label_fail h0 h63 hlt' (by simpa using hs)).symm, trivial⟩
  · have hx1 : ¬ x = 0 := by simpa using hx0
    have e : ((x : Int) == Int.ofNat s.length - 1) = (x == 0 || x == s.length - 1) := by
      rw [Bool.eq_iff_iff]
      simp [hx1]
      omega
    rw [e] at hs
    simpa using hs)
theorem label_fail2 {s : Bs} {x : Nat} (h : x < s.length) (hx : signB s[x] = false) : labelB s = false := by
  unfold labelB
  rw [all_fail h hx]
  simp
theorem okLabelR : Go.Sy.ConOK Tryz.prog Tryz.tab F.ref08_label (cBs labelB) := askY_ok (cfg := fun y => cfgS conH1 (annAt F.ref08_label 4 (aLabelR y))) Tryz.prOk (fun _ => rfl) (fun _ => conH1_ok) (n := 400) (by
  rw [vcLabelR]
  intro s hpre
  have hpre : s.length ≤ 100000 := hpre
  refine br_iff.2 ⟨fun h => ?_, fun h => br_iff.2 ⟨fun h2 => ?_, fun h2 => ?_⟩⟩
  · rw [ltI_eq, decide_eq_true_eq, Int.ofNat_eq_natCast] at h
    have : s = [] := List.eq_nil_of_length_eq_zero (by omega)
    subst this
    exact ⟨rfl, trivial⟩
  · rw [ltI_eq, decide_eq_true_eq, Int.ofNat_eq_natCast] at h2
    exact ⟨(label_big (by omega)).symm, trivial⟩
  rw [ltI_eq, decide_eq_false_iff_not, Int.ofNat_eq_natCast] at h h2
  have hp : 0 < s.length := by omega
  have h0 : s ≠ [] := List.length_pos_iff.1 hp
  have hhd : s.head? = some s[0] := by rw [List.head?_eq_getElem?]; simp [hp]
  have htl : s.getLast? = some (s[s.length - 1]'(by omega)) := by rw [List.getLast?_eq_getElem?]; simp [hp]
  have hlast : s[Int.toNat (Int.ofNat s.length - 1)]? = some (s[s.length - 1]'(by omega)) := by
    rw [show Int.toNat (Int.ofNat s.length - 1) = s.length - 1 by rw [Int.ofNat_eq_natCast]; omega]
    simp [hp]
  refine so_iff.2 ⟨s[0], by simp [hp], br_iff.2 ⟨fun h3 => ?_, fun h3 => ck_iff.2 ⟨by rw [inR64, Int.ofNat_eq_natCast]; omega, ck_iff.2 ⟨by rw [nn_eq, decide_eq_true_eq, Int.ofNat_eq_natCast]; omega, so_iff.2 ⟨_, hlast, br_iff.2 ⟨fun h4 => ?_, fun h4 => ⟨⟨0, ⟨by simp, fun j h hj => by omega⟩, ⟨rfl, rfl, trivial⟩, trivial, trivial⟩, ?_⟩⟩⟩⟩⟩⟩⟩
  · have : s[0] = 45 := by rw [eq45]; simpa [nB] using h3
    refine ⟨?_, trivial⟩
    unfold labelB
    rw [hhd, this]
    simp
  · have : s[s.length - 1]'(by omega) = 45 := by rw [eq45]; simpa [nB] using h4
    refine ⟨?_, trivial⟩
    unfold labelB
    rw [htl, this]
    simp
  rintro x ⟨hx, hall⟩
  refine br_iff.2 ⟨fun hlt => so_iff.2 ⟨_, get_ok (lt_of_ltI hlt), s[x]'(lt_of_ltI hlt), rfl, trivial, br_iff.2 ⟨fun hs => ⟨(label_fail2 (lt_of_ltI hlt) (by simpa using hs)).symm, trivial⟩, fun hs => ck_iff.2 ⟨inR_nat x (by have := lt_of_ltI hlt; omega), x + 1, ⟨lt_of_ltI hlt, all_next hall (lt_of_ltI hlt) (by simpa using hs)⟩, ?_, ⟨rfl, by simp [eqI], trivial⟩, trivial, trivial⟩⟩⟩, fun hge => ⟨?_, trivial⟩⟩
  · have := lt_of_ltI hlt
    show s.length - (x + 1) < s.length - x
    omega
  · have ha := all_done hall (ge_of_ltI hge)
    have n1 : s[0] ≠ 45 := by intro e; rw [eq45] at e; simp [nB] at e h3; exact h3 e
    have n2 : (s[s.length - 1]'(by omega)) ≠ 45 := by intro e; rw [eq45] at e; simp [nB] at e h4; exact h4 e
    unfold labelB
    rw [ha, hhd, htl]
    simp [h0, n1, n2]
    omega)
theorem num_dig {p : Bs} (h0 : p ≠ []) (hd : ∀ b ∈ p, isDig b = true) : numB p = (p.foldl stepN 0, true) := by
  cases p with
  | nil => exact absurd rfl h0
  | cons b s =>
    have hb := (isDig_iff b).1 (hd b List.mem_cons_self)
    have hn : negB (b :: s) = false := by
      show (nB b == 45) = false
      rw [beq_eq_false_iff_ne]
      omega
    have ha := absN_pos hn
    rw [num_yes (by rw [ha]; simp) (by rw [ha]; exact hd), ha, hn]
    simp
theorem byte_of {b : UInt8} {n : Nat} (h : nB b = 48 + (n : Int)) : UInt8.ofNat (48 + n) = b := by
  apply nB_inj
  have := nB_range b
  rw [h]
  unfold nB
  rw [UInt8.toNat_ofNat']
  rw [Nat.mod_eq_of_lt (by omega)]
  simp
theorem dig_nat {b : UInt8} (h : isDig b = true) : ∃ d : Nat, d ≤ 9 ∧ nB b = 48 + (d : Int) := by
  rw [isDig_iff] at h
  exact ⟨(nB b - 48).toNat, by omega, by omega⟩
theorem step_small {n : Int} {b : UInt8} {d : Nat} (hb : nB b = 48 + (d : Int)) (hd : d ≤ 9) (h0 : 0 ≤ n) (hn : n ≤ 100000) : stepN n b = n * 10 + d := by
  unfold stepN
  rw [hb]
  omega
theorem fold_ge (s : Bs) (hd : ∀ b ∈ s, isDig b = true) : ∀ n : Int, 1000 ≤ n → n ≤ 1099511627776 → 1000 ≤ s.foldl stepN n := by
  induction s with
  | nil => intro n h _; exact h
  | cons b s ih =>
    intro n h1 h2
    have hb := (isDig_iff b).1 (hd b List.mem_cons_self)
    refine ih (fun c hc => hd c (List.mem_cons_of_mem _ hc)) _ ?_ ?_ <;> unfold stepN <;> omega
theorem text1 (d : Nat) (h : d ≤ 9) : textB d = [UInt8.ofNat (48 + d)] := by unfold textB; exact textF_lt 39 d h
theorem text2 (n : Nat) (h : 9 < n) (h2 : n ≤ 99) : textB n = [UInt8.ofNat (48 + n / 10), UInt8.ofNat (48 + n % 10)] := by
  unfold textB
  show textF (39 + 1) n = _
  have : ¬ n ≤ 9 := by omega
  simp only [textF, if_neg this]
  rw [if_pos (by omega)]
  rfl
theorem text3 (n : Nat) (h : 99 < n) (h2 : n ≤ 999) : textB n = [UInt8.ofNat (48 + n / 100), UInt8.ofNat (48 + n / 10 % 10), UInt8.ofNat (48 + n % 10)] := by
  unfold textB
  show textF (39 + 1) n = _
  have h3 : ¬ n ≤ 9 := by omega
  have h4 : ¬ n / 10 ≤ 9 := by omega
  simp only [textF, if_neg h3, if_neg h4]
  rw [if_pos (by omega)]
  rw [show n / 10 / 10 = n / 100 by omega]
  rfl
theorem part_num {p : Bs} (h1 : 1 ≤ p.length) (hd : digsB p = p.length) : 0 ≤ (numB p).1 ∧ (numB p).1 ≤ 1099511627776 := by
  have hdd : ∀ b ∈ p, isDig b = true := digsB_all (by omega)
  rw [num_dig (List.length_pos_iff.1 h1) hdd]
  exact foldN_range p hdd 0 (by omega) (by omega)
theorem part_text {p : Bs} (h1 : 1 ≤ p.length) (hd : digsB p = p.length) (h2 : (numB p).1 ≤ 255) : (decide (1 < p.length) && p.head? == some 48) = false ↔ (p.length ≤ 3 ∧ textB (numB p).1.toNat = p) := by
  have hdd : ∀ b ∈ p, isDig b = true := digsB_all (by omega)
  rw [num_dig (List.length_pos_iff.1 h1) hdd] at h2 ⊢
  simp only at h2 ⊢
  have e48 : ∀ b : UInt8, b = 48 ↔ nB b = 48 := fun b => ⟨fun h => by rw [h]; rfl, fun h => nB_inj (h.trans rfl)⟩
  match p, h1 with
  | [a], _ =>
    obtain ⟨d, d9, hb⟩ := dig_nat (hdd a (by simp))
    simp only [List.foldl_cons, List.foldl_nil, step_small hb d9 (Int.le_refl 0) (by omega)]
    rw [show ((0 : Int) * 10 + (d : Int)).toNat = d by omega, text1 d d9, byte_of hb]
    simp
  | [a, b], _ =>
    obtain ⟨d, d9, hb⟩ := dig_nat (hdd a (by simp))
    obtain ⟨d2, d29, hb2⟩ := dig_nat (hdd b (by simp))
    simp only [List.foldl_cons, List.foldl_nil, step_small hb d9 (Int.le_refl 0) (by omega)]
    rw [step_small hb2 d29 (by omega) (by omega), show (((0 : Int) * 10 + (d : Int)) * 10 + (d2 : Int)).toNat = d * 10 + d2 by omega]
    by_cases hz : d = 0
    · subst hz
      have : a = 48 := by rw [e48]; simpa using hb
      rw [show 0 * 10 + d2 = d2 by omega, text1 d2 d29]
      simp [this]
    · have : a ≠ 48 := by intro e; rw [e48] at e; omega
      rw [text2 _ (by omega) (by omega), show (d * 10 + d2) / 10 = d by omega, show (d * 10 + d2) % 10 = d2 by omega, byte_of hb, byte_of hb2]
      simp [this]
  | [a, b, c], _ =>
    obtain ⟨d, d9, hb⟩ := dig_nat (hdd a (by simp))
    obtain ⟨d2, d29, hb2⟩ := dig_nat (hdd b (by simp))
    obtain ⟨d3, d39, hb3⟩ := dig_nat (hdd c (by simp))
    simp only [List.foldl_cons, List.foldl_nil, step_small hb d9 (Int.le_refl 0) (by omega)]
    rw [step_small hb2 d29 (by omega) (by omega), step_small hb3 d39 (by omega) (by omega), show ((((0 : Int) * 10 + (d : Int)) * 10 + (d2 : Int)) * 10 + (d3 : Int)).toNat = d * 100 + d2 * 10 + d3 by omega]
    by_cases hz : d = 0
    · subst hz
      have : a = 48 := by rw [e48]; simpa using hb
      have hlt : (textB (0 * 100 + d2 * 10 + d3)).length < 3 := by
        by_cases h : d2 = 0
        · subst h; rw [show 0 * 100 + 0 * 10 + d3 = d3 by omega, text1 d3 d39]; simp
        · rw [text2 _ (by omega) (by omega)]; simp
      have hne : textB (0 * 100 + d2 * 10 + d3) ≠ [a, b, c] := by
        intro e
        rw [e] at hlt
        simp at hlt
      simp only [this, List.length_cons, List.length_nil, List.head?_cons]
      rw [this] at hne
      have hne2 : textB (d2 * 10 + d3) ≠ [48, b, c] := by simpa using hne
      simp [hne2]
    · have : a ≠ 48 := by intro e; rw [e48] at e; omega
      rw [text3 _ (by omega) (by omega), show (d * 100 + d2 * 10 + d3) / 100 = d by omega, show (d * 100 + d2 * 10 + d3) / 10 % 10 = d2 by omega, show (d * 100 + d2 * 10 + d3) % 10 = d3 by omega, byte_of hb, byte_of hb2, byte_of hb3]
      simp [this]
  | a :: b :: c :: e :: s, _ =>
    obtain ⟨d, d9, hb⟩ := dig_nat (hdd a (by simp))
    obtain ⟨d2, d29, hb2⟩ := dig_nat (hdd b (by simp))
    obtain ⟨d3, d39, hb3⟩ := dig_nat (hdd c (by simp))
    obtain ⟨d4, d49, hb4⟩ := dig_nat (hdd e (by simp))
    have hz : d = 0 := by
      apply Decidable.byContradiction
      intro hz
      simp only [List.foldl_cons, step_small hb d9 (Int.le_refl 0) (by omega)] at h2
      rw [step_small hb2 d29 (by omega) (by omega), step_small hb3 d39 (by omega) (by omega), step_small hb4 d49 (by omega) (by omega)] at h2
      have := fold_ge s (fun x hx => hdd x (by simp [hx])) (((((0 : Int) * 10 + (d : Int)) * 10 + (d2 : Int)) * 10 + (d3 : Int)) * 10 + (d4 : Int)) (by omega) (by omega)
      omega
    subst hz
    have : a = 48 := by rw [e48]; simpa using hb
    constructor
    · intro h
      simp [this] at h
    · rintro ⟨h, _⟩
      simp at h
theorem four_fail {s : Bs} {x : Nat} (h : x < (splitB s 46).length) (hp : partB (splitB s 46)[x] = false) : fourB s = false := by
  unfold fourB
  rw [all_fail h hp]
  simp
theorem part_len {s : Bs} {x : Nat} (h : x < (splitB s 46).length) : ((splitB s 46)[x]).length ≤ s.length := splitB_part s 46 _ (List.getElem_mem h)
theorem okFour : Go.Sy.ConOK Tryz.prog Tryz.tab F.host_four (cBs fourB) := askY_ok (cfg := fun y => cfgS conH1 (annAt F.host_four 5 (aFour y))) Tryz.prOk (fun _ => rfl) (fun _ => conH1_ok) (n := 400) (by
  rw [vcFour]
  intro s hpre
  have hpre : s.length ≤ 100000 := hpre
  have hsl := splitB_len s 46
  refine ⟨(s, 46), rfl, rfl, hpre, br_iff.2 ⟨fun h => ?_, fun h => ⟨⟨0, ⟨by simp, fun j h hj => by omega⟩, ⟨rfl, rfl, rfl, trivial⟩, trivial, trivial⟩, ?_⟩⟩⟩
  · refine ⟨?_, trivial⟩
    unfold fourB
    have : ¬ (splitB s 46).length = 4 := by
      simp only [Bool.not_eq_true', beq_eq_false_iff_ne, ne_eq, Int.ofNat_eq_natCast] at h
      omega
    simp [this]
  have h4 : (splitB s 46).length = 4 := by
    simp only [Bool.not_eq_false', beq_iff_eq, Int.ofNat_eq_natCast] at h
    omega
  rintro x ⟨hx, hall⟩
  refine br_iff.2 ⟨fun hlt => so_iff.2 ⟨_, get_ok (lt_of_ltI hlt), ?_⟩, fun hge => ⟨?_, trivial⟩⟩
  · have hx' := lt_of_ltI hlt
    have hpl := part_len hx'
    have next : partB (splitB s 46)[x] = true → ck (inR Go.IntKind.i64 (↑x + 1)) (∃ (y_4 : Nat), (y_4 ≤ (splitB s 46).length ∧ ∀ (j : Nat) (h : j < (splitB s 46).length), j < y_4 → partB (splitB s 46)[j] = true) ∧ (aFour s).μ y_4 < (aFour s).μ x ∧ (SV.lst Bs (splitB s 46) encTx = SV.lst Bs (splitB s 46) encTx ∧ eqI (Int.ofNat (splitB s 46).length) (Int.ofNat (splitB s 46).length) ∧ eqI (↑x + 1) ↑y_4 ∧ True) ∧ True ∧ True) := by
      intro hp
      refine ck_iff.2 ⟨inR_nat x (by omega), x + 1, ⟨hx', all_next hall hx' hp⟩, ?_, ⟨rfl, rfl, by simp [eqI], trivial⟩, trivial, trivial⟩
      show (splitB s 46).length - (x + 1) < (splitB s 46).length - x
      omega
    generalize hpe : (splitB s 46)[x] = p at *
    have fail : partB p = false → false = fourB s := fun h => (four_fail hx' (by rw [hpe]; exact h)).symm
    refine ⟨p, rfl, by omega, br_iff.2 ⟨fun h1 => ⟨fail ?_, trivial⟩, fun h1 => ⟨p, rfl, by omega, br_iff.2 ⟨fun h2 => ⟨fail ?_, trivial⟩, fun h2 => br_iff.2 ⟨fun h3 => ⟨fail ?_, trivial⟩, fun h3 => br_iff.2 ⟨fun h5 => ?_, fun h5 => next ?_⟩⟩⟩⟩⟩⟩
    · have : p = [] := by simpa using h1
      subst this
      rfl
    · have := lt_of_ltI h2
      unfold partB
      have h2' : ¬ digsB p = p.length := by omega
      simp [h2']
    · rw [ltI_eq, decide_eq_true_eq] at h3
      unfold partB
      have : ¬ (numB p).1 ≤ 255 := by omega
      simp [this]
    all_goals (have hp0 : p ≠ [] := by simpa using h1)
    all_goals (have hd : digsB p = p.length := by have := ge_of_ltI h2; have := digsB_le p; simp only [Int.ofNat_eq_natCast] at *; omega)
    all_goals (have h255 : (numB p).1 ≤ 255 := by rw [ltI_eq, decide_eq_false_iff_not] at h3; omega)
    · rw [ltI_eq, decide_eq_true_eq, Int.ofNat_eq_natCast] at h5
      have hpl1 : 1 < p.length := by omega
      refine so_iff.2 ⟨p[0], by simp [show 0 < p.length by omega], br_iff.2 ⟨fun h6 => ⟨fail ?_, trivial⟩, fun h6 => next ?_⟩⟩
      · have : p.head? = some 48 := by
          rw [List.head?_eq_getElem?, List.getElem?_eq_getElem (by omega)]
          congr 1
          exact nB_inj (by simpa [nB] using h6)
        unfold partB
        simp [this, hpl1]
      · have : ¬ p.head? = some 48 := by
          rw [List.head?_eq_getElem?, List.getElem?_eq_getElem (by omega)]
          intro e
          simp only [Option.some.injEq] at e
          rw [e] at h6
          simp at h6
        unfold partB
        simp [this, hp0, hd, h255]
    · rw [ltI_eq, decide_eq_false_iff_not, Int.ofNat_eq_natCast] at h5
      have hpl1 : ¬ 1 < p.length := by omega
      unfold partB
      simp [hpl1, hp0, hd, h255]
  · unfold fourB
    rw [all_done hall (ge_of_ltI hge)]
    simp [h4])
theorem okFourR : Go.Sy.ConOK Tryz.prog Tryz.tab F.ref08_four (cBs fourB) := askY_ok (cfg := fun y => cfgS conH1 (annAt F.ref08_four 5 (aFourR y))) Tryz.prOk (fun _ => rfl) (fun _ => conH1_ok) (n := 400) (by
  rw [vcFourR]
  intro s hpre
  have hpre : s.length ≤ 100000 := hpre
  refine ⟨(s, 46), rfl, rfl, hpre, br_iff.2 ⟨fun h => ?_, fun h => ⟨⟨0, ⟨by simp, fun j h hj => by omega⟩, ⟨rfl, rfl, trivial⟩, trivial, trivial⟩, ?_⟩⟩⟩
  · refine ⟨?_, trivial⟩
    unfold fourB
    have : ¬ (splitB s 46).length = 4 := by
      simp only [Bool.not_eq_true', beq_eq_false_iff_ne, ne_eq, Int.ofNat_eq_natCast] at h
      omega
    simp [this]
  have h4 : (splitB s 46).length = 4 := by
    simp only [Bool.not_eq_false', beq_iff_eq, Int.ofNat_eq_natCast] at h
    omega
  rintro x ⟨hx, hall⟩
  refine br_iff.2 ⟨fun hlt => ?_, fun hge => ⟨?_, trivial⟩⟩
  · have hx' : x < (splitB s 46).length := by rw [ltI_eq, decide_eq_true_eq] at hlt; omega
    have hpl := part_len hx'
    have hget : (splitB s 46)[Int.toNat (x : Int)]? = some (splitB s 46)[x] := get_ok hx'
    have next := all_next hall hx'
    generalize hpe : (splitB s 46)[x] = p at *
    have fail : partB p = false → false = fourB s := fun h => (four_fail hx' (by rw [hpe]; exact h)).symm
    refine so_iff.2 ⟨p, hget, br_iff.2 ⟨fun h1 => ⟨fail ?_, trivial⟩, fun h1 => so_iff.2 ⟨p, hget, br_iff.2 ⟨fun h2 => ⟨fail ?_, trivial⟩, fun h2 => so_iff.2 ⟨p, hget, so_iff.2 ⟨p, hget, p, rfl, by omega, br_iff.2 ⟨fun h3 => ⟨fail ?_, trivial⟩, fun h3 => so_iff.2 ⟨p, hget, p, rfl, by omega, br_iff.2 ⟨fun h5 => ⟨fail ?_, trivial⟩, fun h5 => so_iff.2 ⟨p, hget, (numB p).1.toNat, ?_, ?_, br_iff.2 ⟨fun h6 => ⟨fail ?_, trivial⟩, fun h6 => ck_iff.2 ⟨inR_nat x (by omega), x + 1, ⟨by omega, next ?_⟩, ?_, ⟨rfl, by simp [eqI], trivial⟩, trivial, trivial⟩⟩⟩⟩⟩⟩⟩⟩⟩⟩⟩⟩
    · rw [ltI_eq, decide_eq_true_eq, Int.ofNat_eq_natCast] at h1
      have : p = [] := List.eq_nil_of_length_eq_zero (by omega)
      subst this
      rfl
    all_goals (have hp1 : 1 ≤ p.length := by rw [ltI_eq, decide_eq_false_iff_not, Int.ofNat_eq_natCast] at h1; omega)
    · rw [ltI_eq, decide_eq_true_eq, Int.ofNat_eq_natCast] at h2
      rw [Bool.eq_false_iff]
      intro hp
      unfold partB at hp
      simp only [Bool.and_eq_true, decide_eq_true_eq, Bool.not_eq_true'] at hp
      have := (part_text hp1 hp.1.1.2 hp.1.2).1 hp.2
      omega
    · have h3' : ¬ digsB p = p.length := by
        simp only [Bool.not_eq_true', beq_eq_false_iff_ne, ne_eq, Int.ofNat_eq_natCast] at h3
        omega
      unfold partB
      simp [h3']
    all_goals (have hd : digsB p = p.length := by simp only [Bool.not_eq_false', beq_iff_eq, Int.ofNat_eq_natCast] at h3; omega)
    all_goals (have hnn := part_num hp1 hd)
    · rw [ltI_eq, decide_eq_true_eq] at h5
      unfold partB
      have : ¬ (numB p).1 ≤ 255 := by omega
      simp [this]
    · simp only [eqI]; omega
    · omega
    all_goals (have h255 : (numB p).1 ≤ 255 := by rw [ltI_eq, decide_eq_false_iff_not] at h5; omega)
    · rw [Bool.eq_false_iff]
      intro hp
      unfold partB at hp
      simp only [Bool.and_eq_true, decide_eq_true_eq, Bool.not_eq_true'] at hp
      have := ((part_text hp1 hd h255).1 hp.2).2
      rw [this] at h6
      simp at h6
    · have hl3 : p.length ≤ 3 := by rw [ltI_eq, decide_eq_false_iff_not, Int.ofNat_eq_natCast] at h2; omega
      have ht : textB (numB p).1.toNat = p := by simpa using h6
      have := (part_text hp1 hd h255).2 ⟨hl3, ht⟩
      unfold partB
      rw [this]
      have hp0 : p ≠ [] := List.length_pos_iff.1 hp1
      simp [hp0, hd, h255]
    · show 4 - (x + 1) < 4 - x
      omega
  · unfold fourB
    rw [ltI_eq, decide_eq_false_iff_not] at hge
    rw [all_done hall (by rw [h4, Int.ofNat_eq_natCast]; omega)]
    simp [h4])
theorem hex_br {b : UInt8} {P Q : Prop} (hp : hexB b = true → P) (hq : hexB b = false → Q) :
    br (leI 48 (Int.ofNat (UInt8.toNat b))) (br (leI (Int.ofNat (UInt8.toNat b)) 57) P (br (leI 97 (Int.ofNat (UInt8.toNat b))) (br (leI (Int.ofNat (UInt8.toNat b)) 102) P (br (Int.ofNat (UInt8.toNat b) == 58) P (br (!Int.ofNat (UInt8.toNat b) == 46) Q P))) (br (Int.ofNat (UInt8.toNat b) == 58) P (br (!Int.ofNat (UInt8.toNat b) == 46) Q P))))
      (br (leI 97 (Int.ofNat (UInt8.toNat b))) (br (leI (Int.ofNat (UInt8.toNat b)) 102) P (br (Int.ofNat (UInt8.toNat b) == 58) P (br (!Int.ofNat (UInt8.toNat b) == 46) Q P))) (br (Int.ofNat (UInt8.toNat b) == 58) P (br (!Int.ofNat (UInt8.toNat b) == 46) Q P))) := by
  rw [nB_def]
  have e : hexB b = ((leI 48 (nB b) && leI (nB b) 57) || (leI 97 (nB b) && leI (nB b) 102) || (nB b == 58) || (nB b == 46)) := by
    simp only [leI_eq]
    rfl
  rw [e] at hp hq
  generalize leI 48 (nB b) = a1 at *
  generalize leI (nB b) 57 = a2 at *
  generalize leI 97 (nB b) = a3 at *
  generalize leI (nB b) 102 = a4 at *
  generalize (nB b == 58) = a5 at *
  generalize (nB b == 46) = a6 at *
  cases a1 <;> cases a2 <;> cases a3 <;> cases a4 <;> cases a5 <;> cases a6 <;> simp_all [br]
theorem brack_hd {s : Bs} (h4 : 4 ≤ s.length) : s.head? = some (s[0]'(by omega)) ∧ s.getLast? = some (s[s.length - 1]'(by omega)) := by
  rw [List.head?_eq_getElem?, List.getLast?_eq_getElem?]
  exact ⟨by simp [show 0 < s.length by omega], by simp [show 0 < s.length by omega]⟩
theorem mid_get {s : Bs} {j : Nat} (h : j < ((s.drop 1).take (s.length - 2)).length) : ((s.drop 1).take (s.length - 2))[j] = s[j + 1]'(by simp at h; omega) := by
  rw [List.getElem_take, List.getElem_drop]
  congr 1
  omega
theorem brack_small {s : Bs} (h : s.length < 4) : brackB s = false := by
  unfold brackB
  have : decide (4 ≤ s.length) = false := by simp; omega
  simp [this]
theorem brack_big {s : Bs} (h : 47 < s.length) : brackB s = false := by
  unfold brackB
  have : decide (s.length ≤ 47) = false := by simp; omega
  simp [this]
theorem byte_eq {b : UInt8} {n : UInt8} : (Int.ofNat b.toNat == nB n) = true ↔ b = n := by
  constructor
  · intro h; exact nB_inj (by simpa [nB] using h)
  · intro h; subst h; simp [nB]
theorem brack_first {s : Bs} (h4 : 4 ≤ s.length) (h : (!Int.ofNat (UInt8.toNat (s[0]'(by omega))) == 91) = true) : brackB s = false := by
  have : s[0]'(by omega) ≠ 91 := by
    intro e
    rw [Bool.not_eq_true'] at h
    rw [show (91 : Int) = nB 91 from rfl, byte_eq.2 e] at h
    cases h
  unfold brackB
  rw [(brack_hd h4).1]
  simp [this]
theorem brack_last {s : Bs} (h4 : 4 ≤ s.length) (h : (!Int.ofNat (UInt8.toNat (s[s.length - 1]'(by omega))) == 93) = true) : brackB s = false := by
  have : s[s.length - 1]'(by omega) ≠ 93 := by
    intro e
    rw [Bool.not_eq_true'] at h
    rw [show (93 : Int) = nB 93 from rfl, byte_eq.2 e] at h
    cases h
  unfold brackB
  rw [(brack_hd h4).2]
  simp [this]
theorem brack_yes {s : Bs} (h4 : 4 ≤ s.length) (h47 : s.length ≤ 47) (h1 : (!Int.ofNat (UInt8.toNat (s[0]'(by omega))) == 91) = false) (h2 : (!Int.ofNat (UInt8.toNat (s[s.length - 1]'(by omega))) == 93) = false) : brackB s = ((s.drop 1).take (s.length - 2)).all hexB := by
  have e1 : s[0]'(by omega) = 91 := byte_eq.1 (by simpa [nB] using h1)
  have e2 : s[s.length - 1]'(by omega) = 93 := byte_eq.1 (by simpa [nB] using h2)
  unfold brackB
  rw [(brack_hd h4).1, (brack_hd h4).2, e1, e2]
  simp [h4, h47]
theorem okBrack : Go.Sy.ConOK Tryz.prog Tryz.tab F.host_bracket (cBs brackB) := askY_ok (cfg := fun y => cfgS conH1 (annAt F.host_bracket 4 (aBrack y))) Tryz.prOk (fun _ => rfl) (fun _ => conH1_ok) (n := 400) (by
  rw [vcBrack]
  intro s hpre
  have hpre : s.length ≤ 100000 := hpre
  refine br_iff.2 ⟨fun h => ⟨(brack_small (by rw [ltI_eq, decide_eq_true_eq, Int.ofNat_eq_natCast] at h; omega)).symm, trivial⟩, fun h => br_iff.2 ⟨fun h2 => ⟨(brack_big (by rw [ltI_eq, decide_eq_true_eq, Int.ofNat_eq_natCast] at h2; omega)).symm, trivial⟩, fun h2 => ?_⟩⟩
  have h4 : 4 ≤ s.length := by rw [ltI_eq, decide_eq_false_iff_not, Int.ofNat_eq_natCast] at h; omega
  have h47 : s.length ≤ 47 := by rw [ltI_eq, decide_eq_false_iff_not, Int.ofNat_eq_natCast] at h2; omega
  have hi : Int.toNat (Int.ofNat s.length - 1) = s.length - 1 := by rw [Int.ofNat_eq_natCast]; omega
  have hr : inR Go.IntKind.i64 (Int.ofNat s.length - 1) = true := by rw [inR64, Int.ofNat_eq_natCast]; omega
  have hn : nn (Int.ofNat s.length - 1) = true := by rw [nn_eq, decide_eq_true_eq, Int.ofNat_eq_natCast]; omega
  rw [hi]
  refine so_iff.2 ⟨s[0]'(by omega), by simp [show 0 < s.length by omega], br_iff.2 ⟨fun h5 => ⟨(brack_first h4 h5).symm, trivial⟩, fun h5 => ck_iff.2 ⟨hr, ck_iff.2 ⟨hn, so_iff.2 ⟨s[s.length - 1]'(by omega), by simp [show 0 < s.length by omega], br_iff.2 ⟨fun h6 => ⟨(brack_last h4 h6).symm, trivial⟩, fun h6 => ck_iff.2 ⟨hr, ck_iff.2 ⟨hn, ck_iff.2 ⟨by simp; omega, ⟨0, ⟨by simp, fun j h hj => by omega⟩, ⟨?_, ?_, rfl, trivial⟩, trivial, trivial⟩, ?_⟩⟩⟩⟩⟩⟩⟩⟩⟩
  · rw [show s.length - 1 - Int.toNat 1 = s.length - 2 by simp; omega]
    rfl
  · rw [show s.length - 1 - Int.toNat 1 = s.length - 2 by simp; omega]
    rfl
  have hb := brack_yes h4 h47 h5 h6
  rintro x ⟨hx, hall⟩
  refine br_iff.2 ⟨fun hlt => so_iff.2 ⟨_, get_ok (lt_of_ltI hlt), hex_br (fun hh => ck_iff.2 ⟨inR_nat x (by have := lt_of_ltI hlt; simp at this; omega), x + 1, ⟨lt_of_ltI hlt, all_next hall (lt_of_ltI hlt) hh⟩, ?_, ⟨rfl, rfl, by simp [eqI], trivial⟩, trivial, trivial⟩) (fun hh => ⟨?_, trivial⟩)⟩, fun hge => ⟨?_, trivial⟩⟩
  · have := lt_of_ltI hlt
    show ((s.drop 1).take (s.length - 2)).length - (x + 1) < ((s.drop 1).take (s.length - 2)).length - x
    omega
  · rw [hb, all_fail (lt_of_ltI hlt) hh]
  · rw [hb, all_done hall (ge_of_ltI hge)])
theorem okBrackR : Go.Sy.ConOK Tryz.prog Tryz.tab F.ref08_bracket (cBs brackB) := askY_ok (cfg := fun y => cfgS con0 (annAt F.ref08_bracket 4 (aBrackR y))) Tryz.prOk (fun _ => rfl) (fun _ => con0_ok) (n := 400) (by
  rw [vcBrackR]
  intro s hpre
  have hpre : s.length ≤ 100000 := hpre
  refine br_iff.2 ⟨fun h => ⟨(brack_small (by rw [ltI_eq, decide_eq_true_eq, Int.ofNat_eq_natCast] at h; omega)).symm, trivial⟩, fun h => br_iff.2 ⟨fun h2 => ⟨(brack_big (by rw [ltI_eq, decide_eq_true_eq, Int.ofNat_eq_natCast] at h2; omega)).symm, trivial⟩, fun h2 => ?_⟩⟩
  have h4 : 4 ≤ s.length := by rw [ltI_eq, decide_eq_false_iff_not, Int.ofNat_eq_natCast] at h; omega
  have h47 : s.length ≤ 47 := by rw [ltI_eq, decide_eq_false_iff_not, Int.ofNat_eq_natCast] at h2; omega
  have hi : Int.toNat (Int.ofNat s.length - 1) = s.length - 1 := by rw [Int.ofNat_eq_natCast]; omega
  have hr : inR Go.IntKind.i64 (Int.ofNat s.length - 1) = true := by rw [inR64, Int.ofNat_eq_natCast]; omega
  have hn : nn (Int.ofNat s.length - 1) = true := by rw [nn_eq, decide_eq_true_eq, Int.ofNat_eq_natCast]; omega
  rw [hi]
  refine so_iff.2 ⟨s[0]'(by omega), by simp [show 0 < s.length by omega], br_iff.2 ⟨fun h5 => ⟨(brack_first h4 h5).symm, trivial⟩, fun h5 => ck_iff.2 ⟨hr, ck_iff.2 ⟨hn, so_iff.2 ⟨s[s.length - 1]'(by omega), by simp [show 0 < s.length by omega], br_iff.2 ⟨fun h6 => ⟨(brack_last h4 h6).symm, trivial⟩, fun h6 => ⟨⟨1, ⟨by omega, by omega, fun j h h1 hj => by omega⟩, ⟨rfl, rfl, trivial⟩, trivial, trivial⟩, ?_⟩⟩⟩⟩⟩⟩⟩
  have hb := brack_yes h4 h47 h5 h6
  rintro x ⟨hx1, hx, hall⟩
  refine ck_iff.2 ⟨hr, br_iff.2 ⟨fun hlt => ?_, fun hge => ⟨?_, trivial⟩⟩⟩
  · have hlt' : x + 1 < s.length := by rw [ltI_eq, decide_eq_true_eq, Int.ofNat_eq_natCast] at hlt; omega
    refine so_iff.2 ⟨s[x], get_ok (by omega), hex_br (fun hh => ck_iff.2 ⟨inR_nat x (by omega), x + 1, ⟨by omega, by omega, fun j hj h1 hjx => ?_⟩, ?_, ⟨rfl, by simp [eqI], trivial⟩, trivial, trivial⟩) (fun hh => ⟨?_, trivial⟩)⟩
    · by_cases e : j = x
      · subst e; exact hh
      · exact hall j hj h1 (by omega)
    · show s.length - (x + 1) < s.length - x
      omega
    · have hl : x - 1 < ((s.drop 1).take (s.length - 2)).length := by simp; omega
      rw [hb, all_fail hl (by rw [mid_get hl]; simp only [show x - 1 + 1 = x by omega]; exact hh)]
  · rw [ltI_eq, decide_eq_false_iff_not, Int.ofNat_eq_natCast] at hge
    rw [hb]
    symm
    rw [List.all_eq_true]
    intro b hbm
    obtain ⟨j, hj, rfl⟩ := List.getElem_of_mem hbm
    rw [mid_get hj]
    simp at hj
    exact hall (j + 1) (by omega) (by omega) (by omega))
theorem conH2_ok : ∀ g C, conH2 g = some C → Go.Sy.ConOK Tryz.prog Tryz.tab g C := con_step okLabel (con_step okLabelR (con_step okFour (con_step okFourR (con_step okBrack (con_step okBrackR conH1_ok)))))
theorem okAddr : Go.Sy.ConOK Tryz.prog Tryz.tab F.host_Address (cBs addrB) := askY_ok (cfg := fun y => cfgS conH2 (noAnn y)) Tryz.prOk (fun _ => rfl) (fun _ => conH2_ok) (n := 400) (by
  rw [vcAddr]
  intro s hpre
  refine ⟨s, rfl, hpre, br_iff.2 ⟨fun h => ⟨by unfold addrB; rw [h]; rfl, trivial⟩, fun h => ⟨s, rfl, hpre, by unfold addrB; rw [h]; rfl, trivial⟩⟩⟩)
theorem okAddrR : Go.Sy.ConOK Tryz.prog Tryz.tab F.ref08_Address (cBs addrB) := askY_ok (cfg := fun y => cfgS conH2 (noAnn y)) Tryz.prOk (fun _ => rfl) (fun _ => conH2_ok) (n := 400) (by
  rw [vcAddrR]
  intro s hpre
  refine ⟨s, rfl, hpre, br_iff.2 ⟨fun h => ⟨by unfold addrB; rw [h]; rfl, trivial⟩, fun h => ⟨s, rfl, hpre, by unfold addrB; rw [h]; rfl, trivial⟩⟩⟩)
theorem name_big {s : Bs} (h : 256 < s.length) : nameB s = false := by
  unfold nameB
  have : decide (s.length ≤ 256) = false := by simp; omega
  simp [this]
theorem name_four {s : Bs} (h : fourB s = true) : nameB s = false := by
  unfold nameB
  simp [h]
theorem name_brack {s : Bs} (h : brackB s = true) : nameB s = false := by
  unfold brackB at h
  simp only [Bool.and_eq_true, beq_iff_eq] at h
  have h1 := h.1.1.2
  cases s with
  | nil => simp at h1
  | cons b s =>
    simp only [List.head?_cons, Option.some.injEq] at h1
    subst h1
    have : (splitB (91 :: s) 46).all labelB = false := by
      have hs : splitB (91 :: s) 46 = (match splitB s 46 with | h :: t => (91 :: h) :: t | [] => [[91]]) := by
        rw [splitB]
        rw [if_neg (by decide)]
        try (cases splitB s 46 <;> rfl)
      rw [hs]
      have hl : ∀ h : Bs, labelB (91 :: h) = false := fun h => label_fail2 (s := 91 :: h) (x := 0) (by simp) (by simp [signB, nB])
      cases splitB s 46 with
      | nil => simp [hl]
      | cons h t => simp [hl]
    unfold nameB
    rw [this]
    simp
theorem name_fail {s : Bs} {x : Nat} (h : x < (splitB s 46).length) (hp : labelB (splitB s 46)[x] = false) : nameB s = false := by
  unfold nameB
  rw [all_fail h hp]
  simp
theorem name_done {s : Bs} (h1 : s.length ≤ 256) (h2 : fourB s = false) : nameB s = (splitB s 46).all labelB := by
  unfold nameB
  simp [h1, h2]
theorem okNameR : Go.Sy.ConOK Tryz.prog Tryz.tab F.ref08_Name (cBs nameB) := askY_ok (cfg := fun y => cfgS conH2 (annAt F.ref08_Name 5 (aNameR y))) Tryz.prOk (fun _ => rfl) (fun _ => conH2_ok) (n := 400) (by
  rw [vcNameR]
  intro s hpre
  have hpre : s.length ≤ 100000 := hpre
  have hsl := splitB_len s 46
  refine br_iff.2 ⟨fun h => ⟨(name_big (by rw [ltI_eq, decide_eq_true_eq, Int.ofNat_eq_natCast] at h; omega)).symm, trivial⟩, fun h => ⟨s, rfl, hpre, br_iff.2 ⟨fun h2 => ⟨(name_four h2).symm, trivial⟩, fun h2 => ⟨(s, 46), rfl, rfl, hpre, ⟨0, ⟨by simp, fun j h hj => by omega⟩, ⟨rfl, rfl, trivial⟩, trivial, trivial⟩, ?_⟩⟩⟩⟩
  have h256 : s.length ≤ 256 := by rw [ltI_eq, decide_eq_false_iff_not, Int.ofNat_eq_natCast] at h; omega
  rintro x ⟨hx, hall⟩
  refine br_iff.2 ⟨fun hlt => so_iff.2 ⟨_, get_ok (lt_of_ltI hlt), _, rfl, ?_, br_iff.2 ⟨fun hh => ⟨(name_fail (lt_of_ltI hlt) (by simpa using hh)).symm, trivial⟩, fun hh => ck_iff.2 ⟨inR_nat x (by have := lt_of_ltI hlt; omega), x + 1, ⟨lt_of_ltI hlt, all_next hall (lt_of_ltI hlt) (by simpa using hh)⟩, ?_, ⟨rfl, by simp [eqI], trivial⟩, trivial, trivial⟩⟩⟩, fun hge => ⟨?_, trivial⟩⟩
  · have := part_len (lt_of_ltI hlt); omega
  · have := lt_of_ltI hlt
    show (splitB s 46).length - (x + 1) < (splitB s 46).length - x
    omega
  · rw [name_done h256 h2, all_done hall (ge_of_ltI hge)])
theorem conH3_ok : ∀ g C, conH3 g = some C → Go.Sy.ConOK Tryz.prog Tryz.tab g C := con_step okAddr (con_step okAddrR (con_step okNameR conH2_ok))
theorem okName : Go.Sy.ConOK Tryz.prog Tryz.tab F.host_name (cBs nameB) := askY_ok (cfg := fun y => cfgS conH3 (annAt F.host_name 4 (aName y))) Tryz.prOk (fun _ => rfl) (fun _ => conH3_ok) (n := 400) (by
  rw [vcName]
  intro s hpre
  have hpre : s.length ≤ 100000 := hpre
  have hsl := splitB_len s 46
  refine br_iff.2 ⟨fun h => ⟨(name_big (by rw [ltI_eq, decide_eq_true_eq, Int.ofNat_eq_natCast] at h; omega)).symm, trivial⟩, fun h => ⟨s, rfl, hpre, br_iff.2 ⟨fun h2 => ⟨?_, trivial⟩, fun h2 => ⟨(s, 46), rfl, rfl, hpre, ⟨0, ⟨by simp, fun j h hj => by omega⟩, ⟨rfl, rfl, rfl, trivial⟩, trivial, trivial⟩, ?_⟩⟩⟩⟩
  · unfold addrB at h2
    rw [Bool.or_eq_true] at h2
    rcases h2 with h2 | h2
    · exact (name_four h2).symm
    · exact (name_brack h2).symm
  have h256 : s.length ≤ 256 := by rw [ltI_eq, decide_eq_false_iff_not, Int.ofNat_eq_natCast] at h; omega
  have h3 : fourB s = false := by unfold addrB at h2; rw [Bool.or_eq_false_iff] at h2; exact h2.1
  rintro x ⟨hx, hall⟩
  refine br_iff.2 ⟨fun hlt => so_iff.2 ⟨_, get_ok (lt_of_ltI hlt), _, rfl, ?_, br_iff.2 ⟨fun hh => ⟨(name_fail (lt_of_ltI hlt) (by simpa using hh)).symm, trivial⟩, fun hh => ck_iff.2 ⟨inR_nat x (by have := lt_of_ltI hlt; omega), x + 1, ⟨lt_of_ltI hlt, all_next hall (lt_of_ltI hlt) (by simpa using hh)⟩, ?_, ⟨rfl, rfl, by simp [eqI], trivial⟩, trivial, trivial⟩⟩⟩, fun hge => ⟨?_, trivial⟩⟩
  · have := part_len (lt_of_ltI hlt); omega
  · have := lt_of_ltI hlt
    show (splitB s 46).length - (x + 1) < (splitB s 46).length - x
    omega
  · rw [name_done h256 h3, all_done hall (ge_of_ltI hge)])
theorem okPrefix : Go.Sy.ConOK Tryz.prog Tryz.tab F.internal_stringslite_HasPrefix cPrefix := askY_ok (cfg := fun y => cfgS con0 (noAnn y)) Tryz.prOk (fun _ => rfl) (fun _ => con0_ok) (n := 400) (by
  rw [vcPrefix]
  rintro ⟨s, t⟩ _
  refine br_iff.2 ⟨fun h => ck_iff.2 ⟨?_, ?_, trivial⟩, fun h => ⟨?_, trivial⟩⟩
  · rw [leI_eq, decide_eq_true_eq] at h
    simp at h ⊢
    exact h
  · rw [Bool.eq_iff_iff]; simp
  · rw [leI_eq, decide_eq_false_iff_not] at h
    symm
    rw [decide_eq_false_iff_not]
    intro e
    have := congrArg List.length e
    simp at this h
    omega)
theorem conH4_ok : ∀ g C, conH4 g = some C → Go.Sy.ConOK Tryz.prog Tryz.tab g C := con_step okName (con_step okPrefix conH3_ok)
theorem okPrefix2 : Go.Sy.ConOK Tryz.prog Tryz.tab F.strings_HasPrefix cPrefix := askY_ok (cfg := fun y => cfgS conH4 (noAnn y)) Tryz.prOk (fun _ => rfl) (fun _ => conH4_ok) (n := 400) (by
  rw [vcPrefix2]
  rintro ⟨s, t⟩ h
  exact ⟨(s, t), rfl, rfl, h, rfl, trivial⟩)
theorem okLabels : Go.Sy.ConOK Tryz.prog Tryz.tab F.host_Labels cLabels := askY_ok (cfg := fun y => cfgS conH4 (noAnn y)) Tryz.prOk (fun _ => rfl) (fun _ => conH4_ok) (n := 400) (by
  rw [vcLabels]
  intro s hpre
  refine ⟨s, rfl, hpre, br_iff.2 ⟨fun h => ⟨?_, trivial⟩, fun h => ⟨(s, 46), rfl, rfl, hpre, ?_, trivial⟩⟩⟩
  · rw [if_neg (by simpa using h)]
  · rw [if_pos (by simpa using h)])
theorem okSplit9 : Go.Sy.ConOK Tryz.prog Tryz.tab F.ref09_split cSplit9 := askY_ok (cfg := fun y => cfgS con0 (noAnn y)) Tryz.prOk (fun _ => rfl) (fun _ => con0_ok) (n := 400) (by
  rw [vcSplit9]
  intro s hpre
  have bang : ∀ (_ : 1 < s.length) (_ : ¬ (2 < s.length ∧ s.take 2 = [42, 46])), so s[Int.toNat 0]? fun (val : UInt8) => br (Int.ofNat (UInt8.toNat val) == 33) (ck (Nat.ble (Int.toNat 1) s.length) (eqI 33 (split9 s).1 ∧ List.drop (Int.toNat 1) s = (split9 s).2 ∧ True)) (eqI 0 (split9 s).1 ∧ s = (split9 s).2 ∧ True) := by
    intro h hn
    have hhd : s.head? = some s[0] := by rw [List.head?_eq_getElem?]; simp [show 0 < s.length by omega]
    refine so_iff.2 ⟨s[0], by simp [show 0 < s.length by omega], br_iff.2 ⟨fun hb => ck_iff.2 ⟨by simp; omega, ?_⟩, fun hb => ?_⟩⟩
    · have : s[0] = 33 := byte_eq.1 hb
      unfold split9
      rw [if_neg hn, if_pos ⟨h, by rw [hhd, this]⟩]
      exact ⟨rfl, rfl, trivial⟩
    · have : s[0] ≠ 33 := fun e => by rw [show (33 : Int) = nB 33 from rfl, byte_eq.2 e] at hb; cases hb
      unfold split9
      rw [if_neg hn, if_neg (by rintro ⟨_, e⟩; rw [hhd] at e; simp only [Option.some.injEq] at e; exact this e)]
      exact ⟨rfl, rfl, trivial⟩
  have none1 : ¬ (1 < s.length) → ¬ (2 < s.length ∧ s.take 2 = [42, 46]) → eqI 0 (split9 s).1 ∧ s = (split9 s).2 ∧ True := by
    intro h hn
    unfold split9
    rw [if_neg hn, if_neg (fun e => h e.1)]
    exact ⟨rfl, rfl, trivial⟩
  have c2 : ltI 2 (Int.ofNat s.length) = true ↔ 2 < s.length := by rw [ltI_eq, decide_eq_true_eq, Int.ofNat_eq_natCast]; omega
  have c1 : ltI 1 (Int.ofNat s.length) = true ↔ 1 < s.length := by rw [ltI_eq, decide_eq_true_eq, Int.ofNat_eq_natCast]; omega
  have n1 : ltI 1 (Int.ofNat s.length) = false → ¬ 1 < s.length := fun h h2 => by rw [c1.2 h2] at h; cases h
  refine br_iff.2 ⟨fun h => ck_iff.2 ⟨by have := c2.1 h; simp; omega, br_iff.2 ⟨fun h2 => ck_iff.2 ⟨by have := c2.1 h; simp; omega, ?_⟩, fun h2 => ?_⟩⟩, fun h => ?_⟩
  · have : s.take 2 = [42, 46] := by simpa using h2
    unfold split9
    rw [if_pos ⟨c2.1 h, this⟩]
    exact ⟨rfl, rfl, trivial⟩
  · have hn : ¬ (2 < s.length ∧ s.take 2 = [42, 46]) := by rintro ⟨_, e⟩; simp [e] at h2
    exact br_iff.2 ⟨fun h3 => bang (c1.1 h3) hn, fun h3 => none1 (n1 h3) hn⟩
  · have hn : ¬ (2 < s.length ∧ s.take 2 = [42, 46]) := by rintro ⟨e, _⟩; rw [c2.2 e] at h; cases h
    exact br_iff.2 ⟨fun h3 => bang (c1.1 h3) hn, fun h3 => none1 (n1 h3) hn⟩)
theorem conH5_ok : ∀ g C, conH5 g = some C → Go.Sy.ConOK Tryz.prog Tryz.tab g C := con_step okLabels (con_step okPrefix2 (con_step okSplit9 conH4_ok))
theorem labels_pos (s : Bs) : ltI 0 (Int.ofNat (if nameB s = true then splitB s 46 else []).length) = nameB s := by
  have := List.length_pos_iff.2 (splitB_ne s 46)
  rw [ltI_eq, Int.ofNat_eq_natCast]
  cases h : nameB s
  · simp
  · simp; omega
theorem okParse : Go.Sy.ConOK Tryz.prog Tryz.tab F.suffix_parse cParse := askY_ok (cfg := fun y => cfgS conH5 (noAnn y)) Tryz.prOk (fun _ => rfl) (fun _ => conH5_ok) (n := 400) (by
  rw [vcParse]
  intro s hpre
  have hpre : s.length ≤ 100000 := hpre
  refine ⟨(s, [42, 46]), rfl, rfl, ⟨hpre, by simp⟩, br_iff.2 ⟨fun h => ?_, fun h => ⟨(s, [33]), rfl, rfl, ⟨hpre, by simp⟩, br_iff.2 ⟨fun h2 => ?_, fun h2 => ?_⟩⟩⟩⟩
  · have h' : s.take 2 = [42, 46] := by simpa using h
    have hl : 2 ≤ s.length := by have := congrArg List.length h'; simp at this; omega
    have hr : ruleB s = (s.drop 2, true, false) := by unfold ruleB; rw [if_pos h']
    have hi : isRule s = nameB (s.drop 2) := by unfold isRule; rw [hr]; simp
    refine ck_iff.2 ⟨by simp; omega, s.drop 2, rfl, by simp; omega, br_iff.2 ⟨fun h3 => ?_, fun h3 => ?_⟩⟩
    all_goals (rw [labels_pos] at h3; rw [hr, hi, h3]; exact ⟨rfl, rfl, rfl, rfl, trivial⟩)
  · have h0 : ¬ s.take 2 = [42, 46] := by simpa using h
    have h' : s.take 1 = [33] := by simpa using h2
    have hl : 1 ≤ s.length := by have := congrArg List.length h'; simp at this; omega
    have hr : ruleB s = (s.drop 1, false, true) := by unfold ruleB; rw [if_neg h0, if_pos h']
    have hi : isRule s = (nameB (s.drop 1) && decide (1 < (splitB (s.drop 1) 46).length)) := by unfold isRule; rw [hr]; simp
    refine ck_iff.2 ⟨by simp; omega, s.drop 1, rfl, by simp; omega, br_iff.2 ⟨fun h3 => ?_, fun h3 => ?_⟩⟩
    · rw [labels_pos] at h3
      rw [hr, hi, h3, if_pos rfl]
      refine ⟨rfl, rfl, rfl, ?_, trivial⟩
      rw [ltI_eq, Bool.eq_iff_iff]
      simp
      omega
    · rw [labels_pos] at h3
      rw [hr, hi, h3]
      exact ⟨rfl, rfl, rfl, rfl, trivial⟩
  · have h0 : ¬ s.take 2 = [42, 46] := by simpa using h
    have h1 : ¬ s.take 1 = [33] := by simpa using h2
    have hr : ruleB s = (s, false, false) := by unfold ruleB; rw [if_neg h0, if_neg h1]
    have hi : isRule s = nameB s := by unfold isRule; rw [hr]; simp
    refine ⟨s, rfl, hpre, br_iff.2 ⟨fun h3 => ?_, fun h3 => ?_⟩⟩
    all_goals (rw [labels_pos] at h3; rw [hr, hi, h3]; exact ⟨rfl, rfl, rfl, rfl, trivial⟩))
theorem findB_split (s : Bs) : leI 0 (findB s 46) = decide (1 < (splitB s 46).length) := by
  rw [splitB_pos, leI_eq]
  rcases findB_val s 46 with ⟨i, h1, h2, h3⟩ | ⟨h1, h2⟩
  · rw [h1, h2]
    have := List.length_pos_iff.2 (splitB_ne (s.drop (i + 1)) 46)
    rw [Bool.eq_iff_iff]
    simp
    omega
  · rw [h1, h2]
    rfl
theorem name_sign {b : UInt8} {s : Bs} (h : signB b = false) (h2 : nB b ≠ 46) : nameB (b :: s) = false := by
  have hs : splitB (b :: s) 46 = (match splitB s 46 with | h :: t => (b :: h) :: t | [] => [[b]]) := by
    rw [splitB]
    rw [if_neg h2]
    try (cases splitB s 46 <;> rfl)
  have hl : ∀ h' : Bs, labelB (b :: h') = false := fun h' => label_fail2 (s := b :: h') (x := 0) (by simp) (by simpa using h)
  have : (splitB (b :: s) 46).all labelB = false := by
    rw [hs]
    cases splitB s 46 with
    | nil => simp [hl]
    | cons h t => simp [hl]
  unfold nameB
  rw [this]
  simp
theorem name_nil : nameB [] = false := by rfl
theorem rule_eq (s : Bs) : isRule s = (nameB (split9 s).2 && ((split9 s).1 != 33 || decide (1 < (splitB (split9 s).2 46).length))) := by
  unfold split9
  by_cases h1 : s.take 2 = [42, 46]
  · have hr : ruleB s = (s.drop 2, true, false) := by unfold ruleB; rw [if_pos h1]
    have hi : isRule s = nameB (s.drop 2) := by unfold isRule; rw [hr]; simp
    by_cases h2 : 2 < s.length
    · rw [if_pos ⟨h2, h1⟩, hi]
      simp
    · have hs : s = [42, 46] := by
        rw [← h1]
        exact (List.take_of_length_le (by omega)).symm
      subst hs
      rw [hi]
      rw [if_neg (fun e => h2 e.1), if_neg (by rintro ⟨_, e⟩; simp at e)]
      simp only
      rw [name_sign (by rfl) (by decide)]
      simp [name_nil]
  · rw [if_neg (fun e => h1 e.2)]
    by_cases h3 : s.take 1 = [33]
    · have hr : ruleB s = (s.drop 1, false, true) := by unfold ruleB; rw [if_neg h1, if_pos h3]
      have hi : isRule s = (nameB (s.drop 1) && decide (1 < (splitB (s.drop 1) 46).length)) := by unfold isRule; rw [hr]; simp
      cases s with
      | nil => simp at h3
      | cons b s =>
        have hb : b = 33 := by simpa using h3
        subst hb
        by_cases h4 : 1 < (33 :: s).length
        · rw [if_pos ⟨h4, rfl⟩, hi]
          simp
        · have : s = [] := by simp at h4; exact h4
          subst this
          rw [if_neg (fun e => h4 e.1), hi, name_sign (by rfl) (by decide)]
          simp [name_nil]
    · have hr : ruleB s = (s, false, false) := by unfold ruleB; rw [if_neg h1, if_neg h3]
      have hi : isRule s = nameB s := by unfold isRule; rw [hr]; simp
      rw [if_neg (by
        rintro ⟨e1, e2⟩
        apply h3
        cases s with
        | nil => simp at e1
        | cons b s => simp only [List.head?_cons, Option.some.injEq] at e2; subst e2; rfl), hi]
      simp
theorem split9_len (s : Bs) : (split9 s).2.length ≤ s.length := by
  unfold split9
  split
  · simp
  · split <;> simp
theorem okRule : Go.Sy.ConOK Tryz.prog Tryz.tab F.ref09_Rule (cBs isRule) := askY_ok (cfg := fun y => cfgS conH5 (noAnn y)) Tryz.prOk (fun _ => rfl) (fun _ => conH5_ok) (n := 400) (by
  rw [vcRule]
  intro s hpre
  have hpre : s.length ≤ 100000 := hpre
  have hl := split9_len s
  refine ⟨s, rfl, hpre, (split9 s).2, rfl, by omega, br_iff.2 ⟨fun h => br_iff.2 ⟨fun h2 => ⟨?_, trivial⟩, fun h2 => ⟨((split9 s).2, 46), rfl, rfl, by simp only; omega, ?_, trivial⟩⟩, fun h => ⟨?_, trivial⟩⟩⟩
  · rw [rule_eq, h]
    have : ((split9 s).1 != 33) = true := h2
    rw [this]
    rfl
  · rw [rule_eq, h]
    have : ((split9 s).1 != 33) = false := h2
    rw [this, findB_split]
    rfl
  · rw [rule_eq, h]
    rfl)
theorem conH6_ok : ∀ g C, conH6 g = some C → Go.Sy.ConOK Tryz.prog Tryz.tab g C := con_step okParse (con_step okRule conH5_ok)
theorem okCheckR : Go.Sy.ConOK Tryz.prog Tryz.tab F.suffix_Check cCheckR := askY_ok (cfg := fun y => cfgS conH6 (annAt F.suffix_Check 4 (aCheckR y))) Tryz.prOk (fun _ => rfl) (fun _ => conH6_ok) (n := 400) (by
  rw [vcCheckR]
  rintro l ⟨hpre, hs⟩
  refine br_iff.2 ⟨fun h => ⟨?_, trivial⟩, fun h => ⟨⟨0, ⟨by simp, fun j h hj => by omega⟩, ⟨rfl, rfl, rfl, trivial⟩, trivial, trivial⟩, ?_⟩⟩
  · rw [ltI_eq, decide_eq_true_eq, Int.ofNat_eq_natCast] at h
    unfold checkR
    rw [if_pos (by omega)]
  have h256 : ¬ 256 < l.length := by rw [ltI_eq, decide_eq_false_iff_not, Int.ofNat_eq_natCast] at h; omega
  rintro x ⟨hx, hall⟩
  refine br_iff.2 ⟨fun hlt => so_iff.2 ⟨_, get_ok (lt_of_ltI hlt), _, rfl, hs _ (List.getElem_mem _), br_iff.2 ⟨fun hh => ⟨?_, trivial⟩, fun hh => ck_iff.2 ⟨inR_nat x (by omega), x + 1, ⟨lt_of_ltI hlt, all_next hall (lt_of_ltI hlt) (by simpa using hh)⟩, ?_, ⟨rfl, rfl, by simp [eqI], trivial⟩, trivial, trivial⟩⟩⟩, fun hge => ⟨?_, trivial⟩⟩
  · unfold checkR
    rw [if_neg h256, all_fail (lt_of_ltI hlt) (by simpa using hh)]
    simp [eqI]
  · have := lt_of_ltI hlt
    show l.length - (x + 1) < l.length - x
    omega
  · unfold checkR
    rw [if_neg h256, all_done hall (ge_of_ltI hge)]
    simp [eqI])
theorem okRight : Go.Sy.ConOK Tryz.prog Tryz.tab F.ref09_Right cRight := askY_ok (cfg := fun y => cfgS conH6 (annAt F.ref09_Right 2 (aRight y))) Tryz.prOk (fun _ => rfl) (fun _ => conH6_ok) (n := 400) (by
  rw [vcRight]
  rintro l ⟨hpre, hs⟩
  refine ⟨⟨0, ⟨by simp, fun j h hj => by omega⟩, ⟨rfl, rfl, trivial⟩, trivial, trivial⟩, ?_⟩
  rintro x ⟨hx, hall⟩
  refine br_iff.2 ⟨fun hlt => so_iff.2 ⟨_, get_ok (lt_of_ltI hlt), _, rfl, hs _ (List.getElem_mem _), br_iff.2 ⟨fun hh => ⟨?_, trivial⟩, fun hh => ck_iff.2 ⟨inR_nat x (by omega), x + 1, ⟨lt_of_ltI hlt, all_next hall (lt_of_ltI hlt) (by simpa using hh)⟩, ?_, ⟨rfl, by simp [eqI], trivial⟩, trivial, trivial⟩⟩⟩, fun hge => ⟨?_, trivial⟩⟩
  · rw [all_fail (lt_of_ltI hlt) (by simpa using hh)]
  · have := lt_of_ltI hlt
    show l.length - (x + 1) < l.length - x
    omega
  · rw [all_done hall (ge_of_ltI hge)])
theorem conH7_ok : ∀ g C, conH7 g = some C → Go.Sy.ConOK Tryz.prog Tryz.tab g C := con_step okCheckR (con_step okRight conH6_ok)
end Go.Proofs

