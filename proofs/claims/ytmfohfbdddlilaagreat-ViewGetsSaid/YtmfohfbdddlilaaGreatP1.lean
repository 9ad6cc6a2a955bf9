/- An evaluator over symbolic values, proved sound over the model's machine, and its use at this seat; no condition. Part 1. -/
import Derived.Laws.Externs
import Derived.Test.YtmfohfbdddlilaaGreatP0
set_option linter.unusedSimpArgs false
set_option linter.unusedVariables false
set_option linter.unusedSectionVars false
set_option linter.deprecated false
namespace Go.Am
open Go.RowKit
variable [Inhabited DrP]
section
variable {P : Program} {tab : Tab} (ok : TabOK P tab) {sub : FuncId -> List AV -> AH -> R (List (AV × AH))} (hsub : qeA P tab sub) (hext : qez P tab)
variable {D : Nat -> Prop} {E : Env} {K : KS} {base : List Frame} {frC : Frame} {csC : List Frame} {w : World}
def qnn (P : Program) (M0 : Machine) (D N : Nat -> Prop) (E : Env) (K : KS) (m' : AM) (base : List Frame) (w : World) : Prop :=
 ∃ fr' cs' w' E', Steps P M0 (lone fr' cs' w') /\ Rel (fun i => D i \/ N i) E' K m' base fr' cs' w' /\ Agree D E E' /\ Kept K w w'
open Classical in
theorem Rel.oneN {m m' : AM} (hR : Rel D E K m base frC csC w) (M0 : Machine) (N : Nat -> Prop) (f : Nat -> Nat × Nat) (hN : ∀ i, N i -> ¬ D i) (hlt : ∀ i, D i \/ N i -> i < m'.h.next) (hwf : m'.fr.WF /\ ∀ f ∈ m'.cs, f.WF)
  (h1 : ∀ E', Agree D E E' -> HOK E' m.h K w -> qak E' m.fr = frC -> m.cs.map (qak E') ++ base = csC -> (∀ i, N i -> E'.blk i = (f i).1 /\ E'.cap i = (f i).2) -> One P M0 E' K m' base w) :
  qnn P M0 D N E K m' base w := by
 let E1 : Env := ⟨fun i => if N i then (f i).1 else E.blk i, fun i => if N i then (f i).2 else E.cap i⟩
 have ha : Agree D E E1 := by
  intro i hi; have : ¬ N i := fun hn => hN i hn hi
  simp [E1, this]
 have hE : ∀ i, N i -> E1.blk i = (f i).1 /\ E1.cap i = (f i).2 := by
  intro i hi; simp [E1, hi]
 have hE1 : ∀ E', Agree (fun i => D i \/ N i) E1 E' -> One P M0 E' K m' base w := by
  intro E' he; have hd : Agree D E E' := ha.trans he (fun i hi => .inl hi); obtain ⟨g1, g2, g3⟩ := hR.all E' hd; refine h1 E' hd g1 g2 g3 (fun i hi => ?_); have h2 := he i (.inr hi); have h3 := hE i hi; exact ⟨h2.1.trans h3.1, h2.2.trans h3.2⟩
 obtain ⟨w', s1, s2, s3⟩ := hE1 E1 (Agree.refl _ _); refine ⟨_, _, w', E1, .one s1, ⟨?_, hlt, hwf⟩, ha, s3⟩; intro E' he; obtain ⟨w2, t1, t2, t3⟩ := hE1 E' he; rw [s1] at t1; obtain ⟨e1, e2, e3⟩ := qdg (by simpa using t1); subst e3; exact ⟨t2, e1.symm, e2.symm⟩
variable {fr fr' : AFrame} {cs : List AFrame} {h h0 h1 h2 : AH} {ops : Array Oper} {i : Nat} {rest : List Nat} {k : List AItem} {o : Oper} {v : AV}
theorem Rel.live (hR : Rel D E K { fr, cs, h } base frC csC w) {i : Nat} {ob : AO} (hi : h.get i = some ob) : D i := by
 by_cases hd : D i
 · exact hd
 · exfalso; have ha : Agree D E ⟨fun j => if j = i then w.heap.size else E.blk j, E.cap⟩ := by
    intro j hj; have : ¬ j = i := fun e => hd (e ▸ hj)
    simp [this]
   have := (hR.all _ ha).1.lt hi; simp at this
include ok in
theorem qcV (hR : Rel D E K { fr, cs, h } base frC csC w) (a : AtOp frC ops i rest o) (hp : qaH tab fr.tmps h0 o = .ok (v, h1)) (hf : fr.finish v = .ok fr')
  (hs : ∀ i o, h0.get i = some o -> h.get i = some o) (hd0 : ∀ i o, h0.get i = some o -> i < h0.next)
  (hg : ∀ i o, h2.get i = some o -> h1.get i = some o \/ (h.get i = some o /\ h0.get i = none)) (hd2 : ∀ i o, h2.get i = some o -> i < h2.next \/ (h1.get i = some o /\ h1.next <= h2.next))
  (N : Nat -> Prop) (hN1 : h0.next < h1.next -> N h0.next) (hN : ∀ i, N i -> i = h0.next /\ ¬ D i) (hlt : ∀ i, D i \/ N i -> i < h2.next) :
  qnn P (lone frC csC w) D N E K { fr := fr', cs, h := h2 } base w := by
 obtain ⟨f, hgood⟩ := qfT ok hp w frC.eval; have hfc := qaO hf; have hρ : ∀ E', Agree D E E' -> ∀ x u, ev fr.tmps x = .ok u -> frC.eval x = conc E' u := by
  intro E' he x u hx; rw [<- (hR.all E' he).2.1]; exact qej hR.wf.1 E' hx
 refine hR.oneN (m' := { fr := fr', cs, h := h2 }) _ N (fun _ => f) (fun i hi => (hN i hi).2) hlt ⟨(hfc E).2.1 hR.wf.1, hR.wf.2⟩ ?_; intro E' he H e1 e2 hE'; obtain ⟨_, r, w', s1, s2, s3, s4⟩ := hgood E' _ (H.part hs hd0) (hρ E' he) (fun hlt => hE' h0.next (hN1 hlt)); refine ⟨w', ?_, H.join s3 s4 hg (fun i o hi => (hd2 i o hi).elim id (fun h => Nat.lt_of_lt_of_le (s3.dom i o h.1) h.2)), s4.part⟩; rw [a.value (.inr (qjQ hp)) csC s1 s2, <- e1, <- e2, (hfc E').1]
theorem qtw {M0 : Machine} {N : Nat -> Prop} {m' : AM} {lo : Nat} (hg : qnn P M0 D N E K m' base w) (hlo : lo <= m'.h.next) (hN : ∀ i, N i -> lo <= i) : Gets P lo M0 D E K m' base w := by
 obtain ⟨fr', cs', w', E', h1, h2, h3, h4⟩ := hg; exact ⟨fr', cs', w', E', _, h1, h2, h3, fun i hi => .inl hi, h4, hlo, fun i hi => hi.elim .inl (fun h => .inr (hN i h))⟩
theorem Rel.restEq (hR : Rel D E K { fr, cs, h } base frC csC w) {E' : Env} (he : Agree D E E') : Rest E' h h0 K = Rest E h h0 K := by
 unfold Rest; congr 1
 funext b
 apply propext; constructor
 · rintro (hk | ⟨i, o, h1, h2, e⟩)
   · exact .inl hk
   · exact .inr ⟨i, o, h1, h2, by rw [e, (he i (hR.live h1)).1]⟩
 · rintro (hk | ⟨i, o, h1, h2, e⟩)
   · exact .inl hk
   · exact .inr ⟨i, o, h1, h2, by rw [e, (he i (hR.live h1)).1]⟩
include ok hsub hext in
theorem qp7 (hR : Rel D E K { fr, cs, h } base frC csC w) (a : AtOp frC ops i rest o) (hp : qmI tab sub fr.tmps h0 o = .ok (v, h1)) (hf : fr.finish v = .ok fr')
   (hs : ∀ i o, h0.get i = some o -> h.get i = some o) (hd0 : ∀ i o, h0.get i = some o -> i < h0.next)
   (hg : ∀ i o, h2.get i = some o -> h1.get i = some o \/ (h.get i = some o /\ h0.get i = none)) (hd2 : ∀ i o, h2.get i = some o -> i < h2.next \/ (h1.get i = some o /\ h1.next <= h2.next))
   (hle : h0.next <= h1.next) (hnx : h2.next = h1.next) (hltD : ∀ i, D i -> i < h0.next) :
   Gets P h0.next (lone frC csC w) D E K { fr := fr', cs, h := h2 } base w := by
 have hpure : qaH tab fr.tmps h0 o = .ok (v, h1) -> Gets P h0.next (lone frC csC w) D E K { fr := fr', cs, h := h2 } base w := by
   intro hp; refine qtw (qcV ok hR a hp hf hs hd0 hg hd2 (fun i => i = h0.next /\ h0.next < h1.next) (fun h => ⟨rfl, h⟩) (fun i hi => ⟨hi.1, fun hd => by have := hltD i hd; omega⟩) ?_) (by simp only; omega) (fun i hi => by omega); rintro i (hi | hi)
   · have := hltD i hi; omega
   · omega
 have hfc := qaO hf; have hρ : ∀ E', Agree D E E' -> ∀ x u, ev fr.tmps x = .ok u -> frC.eval x = conc E' u := by
   intro E' he x u hx; rw [<- (hR.all E' he).2.1]; exact qej hR.wf.1 E' hx
 unfold qmI at hp; split at hp
 · rename_i c hc; split at hp
   · rename_i f hcf; obtain ⟨args, hargs, hp1⟩ := zz0.1 hp; obtain ⟨u, hu, hp2⟩ := zz0.1 hp1; obtain ⟨d, hd, hp3⟩ := zz0.1 hp2; clear hp hp1 hp2; have hres : ∀ E', Agree D E E' -> Deferred.ofValue (frC.eval f) (c.args.map frC.eval) = pure (qa8 E' d) := by
       intro E' he; rw [<- qcH hd E', hρ E' he _ _ hu, <- qek (hρ E' he) _ _ hargs]; congr 1
       simp [<- Array.toList_inj]
     have hrob := qdB hres; have hnd : ∀ c', o.op ≠ .defer c' := by rw [hc]; intro c' e; cases e
     have hctx : Ctx P (lone frC csC w) frC csC w .normal (qa8 E d) := qgD a (.inr hnd) (by simp [execOp, hc, resolve, hcf, hres E (Agree.refl _ _)]); split at hp3
     · rename_i g captured htg; have hinv : ∀ E', Agree D E E' -> invoke (qa8 E d).target (qa8 E d).args = callFunc g (qai E' (d.args ++ captured)).toArray := by
         intro E' he; rw [<- hrob E' he]; simp only [qa8, htg, qhk, invoke, concL_append]; simp
       split at hp3
       · rename_i fn hfn; have hP := ok.fns g fn hfn; have hn : fn.name ≠ "runtime.NumGoroutine" := by simpa using ok.nng g fn hfn
         split at hp3
         · rename_i body hb; obtain ⟨outs, ho, hp4⟩ := zz0.1 hp3; split at hp4
           · rename_i v' h' 
             cases hp4; have hrun : ∀ a, (callFunc g a).run P w = .ok (.enter g a) w := by
               intro a; simp [callFunc, hP, hn, hb]
             have hstep : ∀ E', Agree D E E' -> Go.step P (lone frC csC w) = .next (lone (Frame.enter P g (qai E' (d.args ++ captured)).toArray .normal) (frC :: csC) w) := fun E' he =>
               hctx.enter _ _ _ (by rw [hinv E' he, hrun])
             have hargsC : ∀ E', Agree D E E' -> (qai E' (d.args ++ captured)).toArray = (qai E (d.args ++ captured)).toArray := by
               intro E' he; have h4 := hrun (qai E' (d.args ++ captured)).toArray; rw [<- hinv E' he, hinv E (Agree.refl _ _), hrun] at h4; simpa using h4.symm
             obtain ⟨v2, h2', hmem, he2⟩ := hsub g fn body _ h0 _ hfn hb ho D E (Rest E h h0 K) w (qai E (d.args ++ captured)).toArray
               (fun E' he => ⟨by rw [<- hR.restEq he]; exact (hR.all E' he).1.part hs hd0, hargsC E' he⟩) hltD (frC :: csC)
             rcases List.mem_cons.1 hmem with e | hmem
             · cases e; obtain ⟨fr1, w', vC, E', D', s1, s2, s3, s4, s5, s6, s7, s8, s9, s10⟩ := he2; refine ⟨frC.finish vC, csC, w', E', D', ?_, ⟨?_, ?_, ?_⟩, s5, s6, s8.part, by simp only; omega, s10⟩
               · exact (Steps.head (hstep E (Agree.refl _ _)) s1).trans (.one (step_leave_returned s3))
               · intro E'' he'; obtain ⟨g1, g2⟩ := s4 E'' he'; have hag := s5.trans he' s6; obtain ⟨k1, k2, k3⟩ := hR.all E'' hag; refine ⟨k1.join (by rw [hR.restEq hag]; exact g1) (by rw [hR.restEq hag]; exact s8) hg (fun i o hi => (hd2 i o hi).elim id (fun h => Nat.lt_of_lt_of_le (g1.dom i o h.1) h.2)), ?_, k3⟩; rw [<- (hfc E'').1, <- g2, <- k2]
               · intro i hi; have := s7 i hi; simp only; omega
               · exact ⟨(hfc E).2.1 hR.wf.1, hR.wf.2⟩
             · cases hmem
           · cases hp4
         · rename_i hb; obtain ⟨gg, hgg⟩ := hext g fn _ h0 v h1 hfn hb hp3 w; refine qtw (N := fun i => i = h0.next /\ h0.next < h1.next) (hR.oneN (m' := { fr := fr', cs, h := h2 }) _ _ (fun _ => gg) (fun i hi hd => by have := hltD i hd; omega) ?_ ⟨(hfc E).2.1 hR.wf.1, hR.wf.2⟩ ?_) (by simp only; omega) (fun i hi => by omega)
           · rintro i (hi | hi)
             · have := hltD i hi; simp only; omega
             · simp only; omega
           · intro E' he H e1 e2 hE'; obtain ⟨_, w', s1, s2, s3⟩ := hgg E' _ (H.part hs hd0) (fun hlt => hE' h0.next ⟨rfl, hlt⟩); refine ⟨w', ?_, H.join s2 s3 hg (fun i o hi => (hd2 i o hi).elim id (fun h => Nat.lt_of_lt_of_le (s2.dom i o h.1) h.2)), s3.part⟩; rw [hctx.value (conc E' v) w' (by rw [hinv E' he, s1]) rfl, <- e1, <- e2, (hfc E').1]
       · cases hp3
     · cases hp3
   · cases hp
   · exact hpure hp
 · cases hp
 · cases hp
 · cases hp
 · cases hp
 · exact hpure hp
end
end Go.Am
namespace Go.Am
open Go.RowKit
variable [Inhabited DrP]
section
variable {tab : Tab} {ts : T AV} {h h' : AH} {v : AV}
theorem qj0 {t : TypeId} {x : AV} {lo hi mx : Option Operand} (hp : qbm tab ts h t x lo hi mx = .ok (v, h')) : h' = h := by
 unfold qbm at hp; simp only [cond_eq_ite] at hp
 repeat' (first
  | (cases hp; done)
  | (cases hp; rfl)
  | (obtain ⟨_, _, hp⟩ := zz0.1 hp)
  | split at hp)
theorem qcD {b : Builtin} {l : List AV} {at_ : Array TypeId} (hb : b = .len \/ b = .cap \/ b = .min \/ b = .max) (hp : builtin tab b at_ l h = .ok (v, h')) : h' = h := by
 unfold builtin at hp; rcases hb with rfl | rfl | rfl | rfl
 all_goals (repeat' (first
  | contradiction
  | (cases hp; done)
  | (cases hp; rfl)
  | (obtain ⟨_, _, hp⟩ := zz0.1 hp)
  | split at hp))
theorem qnN {src dst : TypeId} (h : (match tab.und.get src, tab.und.get dst with
   | some (.int _), some (.int _) => Cls.pure
   | _, _ => Cls.eff) ≠ Cls.eff) : ∃ k j, tab.und.get src = some (.int k) /\ tab.und.get dst = some (.int j) := by
 split at h
 · rename_i k j h1 h2; exact ⟨k, j, h1, h2⟩
 · exact absurd rfl h
theorem qlq {src dst : TypeId} (h : (match tab.und.get src, tab.und.get dst with
  | some (.int _), some (.int _) => Cls.pure
  | _, _ => Cls.eff) = Cls.pure \/ (match tab.und.get src, tab.und.get dst with
  | some (.int _), some (.int _) => Cls.pure
  | _, _ => Cls.eff) = Cls.read) : ∃ k j, tab.und.get src = some (.int k) /\ tab.und.get dst = some (.int j) := by
 apply qnN; rcases h with h | h <;> rw [h] <;> simp
theorem qpB {src dst : TypeId} (h : (match tab.und.get src, tab.und.get dst with
  | some (.int _), some (.int _) => Cls.pure
  | _, _ => Cls.eff) = Cls.alloc) : False := by
 split at h <;> cases h
theorem qnR {src dst : TypeId} {k j : IntKind} (h1 : tab.und.get src = some (.int k)) (h2 : tab.und.get dst = some (.int j)) {x : AV} (hp : qbh tab h src dst x = .ok (v, h')) : ∃ i n, x = .int i n /\ v = .int j (j.wrap n) /\ h' = h := by
 have e1 : und tab src = .ok (.int k) := zz4.2 h1; have e2 : und tab dst = .ok (.int j) := zz4.2 h2; unfold qbh at hp; obtain ⟨d, hd, hp⟩ := zz0.1 hp; rw [e2] at hd
 cases hd; simp only at hp; unfold convert at hp; obtain ⟨d, hd, hp⟩ := zz0.1 hp; rw [e1] at hd
 cases hd; obtain ⟨d, hd, hp⟩ := zz0.1 hp; rw [e2] at hd
 cases hd
 cases x <;> simp only at hp <;> first | (cases hp; exact ⟨_, _, rfl, rfl, rfl⟩) | (cases hp; done)
theorem qhE {src dst : TypeId} {k j : IntKind} (h1 : tab.und.get src = some (.int k)) (h2 : tab.und.get dst = some (.int j)) (i : IntKind) (n : Int) (h : AH) : qbh tab h src dst (.int i n) = .ok (.int j (j.wrap n), h) := by
 have e1 : und tab src = .ok (.int k) := zz4.2 h1; have e2 : und tab dst = .ok (.int j) := zz4.2 h2; unfold qbh; rw [e2]; show convert tab h src dst (.int i n) = _
 unfold convert; rw [e1, e2]; rfl
theorem qdj {o : Oper} (hc : cls tab o ≠ .eff /\ cls tab o ≠ .alloc) (hp : qaH tab ts h o = .ok (v, h')) : h' = h := by
 obtain ⟨dst, op, type, pos, after, guard⟩ := o; unfold qaH at hp
 cases op <;> simp only [cls] at hc <;> simp only at hp
 case slice t x lo hi mx =>
  obtain ⟨a, ha, hp1⟩ := zz0.1 hp; exact qj0 hp1
 case call c =>
  cases hcc : c.callee with
  | builtin b =>
   rw [hcc] at hp hc; simp only at hp hc; obtain ⟨l, hl, hp1⟩ := zz0.1 hp
   cases b <;> first | exact qcD (.inl rfl) hp1 | exact qcD (.inr (.inl rfl)) hp1 | exact qcD (.inr (.inr (.inl rfl))) hp1 | exact qcD (.inr (.inr (.inr rfl))) hp1 | exact absurd rfl hc.1
  | value f => rw [hcc] at hp; cases hp
  | invoke r m => rw [hcc] at hp; cases hp
 case convert src dst x =>
  obtain ⟨k, j, h1, h2⟩ := qnN hc.1; obtain ⟨_, _, hp1⟩ := zz0.1 hp; obtain ⟨_, _, _, _, rfl⟩ := qnR h1 h2 hp1; rfl
 all_goals first
  | exact absurd rfl hc.1
  | exact absurd rfl hc.2
  | (repeat' (first
    | (cases hp; done)
    | (cases hp; rfl)
    | (obtain ⟨_, _, hp⟩ := zz0.1 hp)
    | split at hp))
end
end Go.Am
namespace Go.Am
open Go.RowKit
variable [Inhabited DrP]
def Kind (tab : Tab) (ops : Array Oper) (s : DS) (j : Nat) (o : Oper) (tj : T AV) (v : AV) : Prop :=
  (wanted ops o tj = .ok false /\ v = .tup [] /\ ∀ x ∈ s.allocs, x.1 ≠ j) \/
  (wanted ops o tj = .ok true /\
    (((∃ h1, qaH tab tj { t := .e, next := 0 } o = .ok (v, h1) /\ h1.next = 0) /\ ∀ x ∈ s.allocs, x.1 ≠ j) \/
     (∃ b h1 ob, ((j, b) ∈ s.allocs /\ ∀ x ∈ s.allocs, x.1 = j -> x.2 = b) /\ qaH tab tj { t := .e, next := b } o = .ok (v, h1) /\ h1.next = b + 1 /\ h1.get b = some ob /\ s.h.get b = some ob) \/
     (((j, tj, v) ∈ s.reads /\ ∀ x ∈ s.allocs, x.1 ≠ j) /\ cls tab o ≠ .eff /\ cls tab o ≠ .alloc /\ ∃ hr, qaH tab tj hr o = .ok (v, hr) /\ ∀ b ob, hr.get b = some ob -> b < hr.next /\ s.h.get b = some ob /\ ∀ x ∈ s.allocs, x.2 ≠ b)))
def Look (ops : Array Oper) (ts0 : T AV) (s : DS) (j : Nat) (o : Oper) (tj : T AV) : Prop :=
 ∀ t ∈ qhr ops o, (∃ i oi, ops[i]? = some oi /\ oi.dst = some t /\ i ∈ qcz o /\ (s.anc.get i).isSome /\ tj.get t = s.ts.get t) \/
  (tj.get t = ts0.get t /\ ∀ i oi a, ops[i]? = some oi -> oi.dst = some t -> s.anc.get i = some a -> i = j \/ j ∈ a)
def Pend (tab : Tab) (ops : Array Oper) (nt : Nat) (ts0 : T AV) (s : DS) (j : Nat) : Prop :=
 ∃ o tj v, ops[j]? = some o /\ (∀ d, o.dst = some d -> d < nt -> s.ts.get d = some v) /\ Look ops ts0 s j o tj /\ Kind tab ops s j o tj v
structure DInv (tab : Tab) (ops : Array Oper) (nt : Nat) (ts0 : T AV) (lo : Nat) (s : DS) (X : Nat -> Prop) : Prop where
 cx : ∀ j, X j -> (s.anc.get j).isSome
 xdn : ∀ j a, X j -> s.anc.get j = some a -> ∀ i ∈ a, X i
 op : ∀ j, (s.anc.get j).isSome -> ∃ o, ops[j]? = some o
 shape : ∀ j a o, s.anc.get j = some a -> ops[j]? = some o -> (∀ i ∈ qcz o, i ∈ a /\ (s.anc.get i).isSome) /\ ∀ i ∈ a, i ∈ qcz o \/ ∃ p ∈ qcz o, ∃ ap, s.anc.get p = some ap /\ i ∈ ap
 uniq : ∀ i j oi oj d, (s.anc.get i).isSome -> ops[i]? = some oi -> ops[j]? = some oj -> oi.dst = some d -> oj.dst = some d -> i = j
 tsC : ∀ t, (∀ j o, (s.anc.get j).isSome -> ops[j]? = some o -> o.dst ≠ some t) -> s.ts.get t = ts0.get t
 pend : ∀ j, (s.anc.get j).isSome -> ¬ X j -> Pend tab ops nt ts0 s j
 al : ∀ x ∈ s.allocs, x.2 < s.h.next /\ (s.anc.get x.1).isSome /\ lo <= x.2
 nx : lo <= s.h.next
 tsw : ∀ t, nt <= t -> s.ts.get t = none
 alu : ∀ x ∈ s.allocs, ∀ y ∈ s.allocs, x.2 = y.2 -> x = y
 hd : ∀ i o, s.h.get i = some o -> i < s.h.next
theorem memN_iff {i : Nat} {l : List Nat} : memN i l = true ↔ i ∈ l := by
 unfold memN; rw [List.any_eq_true]; constructor
 · rintro ⟨x, hx, hb⟩; rw [Nat.eq_of_beq_eq_true hb]; exact hx
 · intro h; exact ⟨i, h, Nat.beq_refl i⟩
theorem qka {anc : T (List Nat)} {t : Tmp} {pre : List Nat} : ∀ (l : List Oper) (k : Nat), qfi anc t pre k l = true -> ∀ j o, l[j]? = some o -> o.dst = some t -> (anc.get (k + j)).isSome -> k + j ∈ pre := by
 intro l; induction l with
 | nil => intro k _ j o hj; simp at hj
 | cons x l ih =>
  intro k h j o hj hd hc; simp only [qfi, Bool.and_eq_true] at h
  cases j with
  | zero =>
   simp only [List.getElem?_cons_zero, Option.some.injEq] at hj; subst hj; have h1 := h.1; rw [hd] at h1; simp only [Nat.add_zero] at hc ⊢; have : Nat.beq t t = true := Nat.beq_refl t; simp only [this, hc, Bool.and_self, cond_true] at h1; exact memN_iff.1 h1
  | succ j =>
   have := ih (k + 1) h.2 j o (by simpa using hj) hd (by rw [show k + 1 + j = k + (j + 1) from by omega]; exact hc); rw [show k + 1 + j = k + (j + 1) from by omega] at this; exact this
theorem qmH {anc : T (List Nat)} {ops : Array Oper} {i : Nat} {a : Tmp} {an : List Nat} : ∀ (l : List Oper) (k : Nat), qiq anc ops i a an k l = true -> ∀ j o, l[j]? = some o ->
  (o.dst = some a -> i = k + j) /\ ((anc.get (k + j)).isSome -> a ∈ qhr ops o -> k + j ∈ an) := by
 intro l; induction l with
 | nil => intro k _ j o hj; simp at hj
 | cons x l ih =>
  intro k h j o hj; simp only [qiq, Bool.and_eq_true] at h; obtain ⟨⟨h1, h2⟩, h3⟩ := h
  cases j with
  | zero =>
   simp only [List.getElem?_cons_zero, Option.some.injEq] at hj; subst hj; simp only [Nat.add_zero]; constructor
   · intro hd; rw [hd] at h1; have : Nat.beq a a = true := Nat.beq_refl a; simp only [this, cond_true] at h1; exact Nat.eq_of_beq_eq_true h1
   · intro hc hl; simp only [hc, cond_true, Bool.or_eq_true, Bool.not_eq_true'] at h2; rcases h2 with h2 | h2
     · exact memN_iff.1 h2
     · rw [memN_iff.2 hl] at h2; cases h2
  | succ j =>
   have := ih (k + 1) h3 j o (by simpa using hj); rw [show k + 1 + j = k + (j + 1) from by omega] at this; exact this
theorem qiH {anc : T (List Nat)} {ops : Array Oper} {i : Nat} {o : Oper} (h : opOk anc ops i o = true) :
   (∀ t ∈ qhr ops o, ∀ j oj, ops[j]? = some oj -> oj.dst = some t -> (anc.get j).isSome -> j ∈ qcz o) /\
   (∀ d, o.dst = some d -> ∀ j oj, ops[j]? = some oj -> (oj.dst = some d -> i = j) /\ ((anc.get j).isSome -> d ∈ qhr ops oj -> j ∈ qaW anc o)) := by
 unfold opOk at h; simp only [Bool.and_eq_true, List.all_eq_true] at h; constructor
 · intro t ht j oj hj hd hc; have := qka ops.toList 0 (h.1 t ht) j oj (by simpa using hj) hd (by simpa using hc); simpa using this
 · intro d hd j oj hj; have h2 := h.2; rw [hd] at h2; have := qmH ops.toList 0 h2 j oj (by simpa using hj); simpa using this
theorem qbH {anc : T (List Nat)} {i : Nat} {o : Oper} (h : qa0 anc i o = true) : anc.get i = none /\ ∀ j ∈ qcz o, (anc.get j).isSome := by
 unfold qa0 at h; simp only [Bool.and_eq_true, List.all_eq_true] at h; exact ⟨by simpa using h.1, h.2⟩
end Go.Am
namespace Go.Am
open Go.RowKit
variable [Inhabited DrP]
theorem qaN (nt : Nat) (ts : T AV) (o : Oper) (v : AV) (t : Nat) : (qaU nt ts o v).get t = if o.dst = some t /\ t < nt then some v else ts.get t := by
 unfold qaU
 cases hd : o.dst with
 | none => simp
 | some d =>
  have := qiI ts nt d v t; unfold putT at this; simp only [this, Option.some.injEq]; by_cases h1 : t = d
  · subst h1; simp
  · have h2 : ¬ d = t := fun e => h1 e.symm
    simp [h1, h2]
theorem memN_mem {i : Nat} {l : List Nat} : memN i l = true ↔ i ∈ l := by
 unfold memN; rw [List.any_eq_true]; constructor
 · rintro ⟨x, hx, h⟩; rw [Nat.eq_of_beq_eq_true h]; exact hx
 · intro h; exact ⟨i, h, Nat.beq_refl i⟩
theorem ql3 {i j : Nat} {l : List Nat} : i ∈ addN j l ↔ i = j \/ i ∈ l := by
 unfold addN
 cases hb : memN j l
 · simp
 · simp only [cond_true]; constructor
   · exact .inr
   · rintro (rfl | h)
     · exact memN_mem.1 hb
     · exact h
theorem qox {i : Nat} : ∀ {m l : List Nat}, i ∈ qnt m l ↔ i ∈ m \/ i ∈ l := by
 intro m; induction m with
 | nil => intro l; simp [qnt]
 | cons j m ih =>
  intro l; simp only [qnt, ih, ql3, List.mem_cons]; constructor
  · rintro (h | rfl | h)
    · exact .inl (.inr h)
    · exact .inl (.inl rfl)
    · exact .inr h
  · rintro ((rfl | h) | h)
    · exact .inr (.inl rfl)
    · exact .inl h
    · exact .inr (.inr h)
theorem mem_ancOf {anc : T (List Nat)} {o : Oper} {i : Nat} : i ∈ qaW anc o ↔ i ∈ qcz o \/ ∃ p ∈ qcz o, ∃ ap, anc.get p = some ap /\ i ∈ ap := by
 unfold qaW; induction qcz o with
 | nil => simp [qlh]
 | cons j l ih =>
  simp only [qlh, ql3, qox, ih, List.mem_cons]; constructor
  · rintro (rfl | h | h | ⟨p, hp, ap, h1, h2⟩)
    · exact .inl (.inl rfl)
    · cases ha : anc.get j with
      | none => rw [ha] at h; cases h
      | some ap => rw [ha] at h; exact .inr ⟨j, .inl rfl, ap, ha, h⟩
    · exact .inl (.inr h)
    · exact .inr ⟨p, .inr hp, ap, h1, h2⟩
  · rintro ((rfl | h) | ⟨p, rfl | hp, ap, h1, h2⟩)
    · exact .inl rfl
    · exact .inr (.inr (.inl h))
    · exact .inr (.inl (by rw [h1]; exact h2))
    · exact .inr (.inr (.inr ⟨p, hp, ap, h1, h2⟩))
section
variable {tab : Tab} {ops : Array Oper} {nt lo : Nat} {ts0 : T AV} {s s' : DS} {X : Nat -> Prop} {i : Nat} {o : Oper} {v : AV}
theorem DInv.float (H : DInv tab ops nt ts0 lo s X) (hi : ops[i]? = some o) (hr : qa0 s.anc i o = true) (hok : opOk s.anc ops i o = true)
   (e1 : s'.ts = qaU nt s.ts o v) (e2 : s'.anc = s.anc.set i (some (qaW s.anc o))) (eh : ∀ b ob, s.h.get b = some ob -> s'.h.get b = some ob) (en : s.h.next <= s'.h.next)
   (ea : s'.allocs = s.allocs \/ (s'.allocs = (i, s.h.next) :: s.allocs /\ s'.h.next = s.h.next + 1)) (er : ∀ x ∈ s.reads, x ∈ s'.reads) (hd' : ∀ b ob, s'.h.get b = some ob -> b < s'.h.next)
   (hk : Kind tab ops s' i o s.ts v) : DInv tab ops nt ts0 lo s' X := by
 obtain ⟨hnone, hpre⟩ := qbH hr; obtain ⟨hok1, hok2⟩ := qiH hok; have hanc : ∀ j, s'.anc.get j = if j = i then some (qaW s.anc o) else s.anc.get j := by
   intro j; rw [e2, T.get_set]
 have hold : ∀ j, (s.anc.get j).isSome -> j ≠ i /\ s'.anc.get j = s.anc.get j := by
   intro j hj; have hne : j ≠ i := by intro e; subst e; rw [hnone] at hj; cases hj
   exact ⟨hne, by rw [hanc, if_neg hne]⟩
 have hnd : ∀ j oj d, (s.anc.get j).isSome -> ops[j]? = some oj -> oj.dst = some d -> o.dst ≠ some d := by
   intro j oj d hj hoj hd hod; have := H.uniq j i oj o d hj hoj hi hd hod; exact (hold j hj).1 this
 have hts : ∀ t, o.dst ≠ some t -> s'.ts.get t = s.ts.get t := by
   intro t ht; rw [e1, qaN, if_neg]; rintro ⟨h, _⟩; exact ht h
 refine ⟨?_, ?_, ?_, ?_, ?_, ?_, ?_, ?_, Nat.le_trans H.nx en, ?_, ?_, hd'⟩
 · intro j hj; rw [(hold j (H.cx j hj)).2]; exact H.cx j hj
 · intro j a hj ha; rw [(hold j (H.cx j hj)).2] at ha; exact H.xdn j a hj ha
 · intro j hj; rw [hanc] at hj; by_cases h1 : j = i
   · subst h1; exact ⟨o, hi⟩
   · rw [if_neg h1] at hj; exact H.op j hj
 · intro j a oj ha hoj; rw [hanc] at ha; by_cases h1 : j = i
   · subst h1; rw [if_pos rfl] at ha; rw [hi] at hoj
     cases ha; cases hoj; refine ⟨fun p hp => ⟨mem_ancOf.2 (.inl hp), ?_⟩, fun x hx => ?_⟩
     · rw [(hold p (hpre p hp)).2]; exact hpre p hp
     · rcases mem_ancOf.1 hx with h | ⟨p, hp, ap, h1, h2⟩
       · exact .inl h
       · exact .inr ⟨p, hp, ap, by rw [(hold p (by rw [h1]; rfl)).2]; exact h1, h2⟩
   · rw [if_neg h1] at ha; obtain ⟨g1, g2⟩ := H.shape j a oj ha hoj; refine ⟨fun p hp => ⟨(g1 p hp).1, ?_⟩, fun x hx => ?_⟩
     · rw [(hold p (g1 p hp).2).2]; exact (g1 p hp).2
     · rcases g2 x hx with h | ⟨p, hp, ap, h1, h2⟩
       · exact .inl h
       · exact .inr ⟨p, hp, ap, by rw [(hold p (by rw [h1]; rfl)).2]; exact h1, h2⟩
 · intro a b oa ob d ha hoa hob hda hdb; rw [hanc] at ha; by_cases h1 : a = i
   · subst h1; rw [hi] at hoa; cases hoa; exact (hok2 d hda b ob hob).1 hdb
   · rw [if_neg h1] at ha; exact H.uniq a b oa ob d ha hoa hob hda hdb
 · intro t ht; have h1 : o.dst ≠ some t := ht i o (by rw [hanc, if_pos rfl]; rfl) hi; rw [hts t h1]; exact H.tsC t (fun j oj hj hoj => ht j oj (by rw [(hold j hj).2]; exact hj) hoj)
 · intro j hj hx; by_cases h1 : j = i
   · subst h1; refine ⟨o, s.ts, v, hi, ?_, ?_, hk⟩
     · intro d hd hlt; rw [e1, qaN, if_pos ⟨hd, hlt⟩]
     · intro t ht; by_cases hw : ∃ jj oj, ops[jj]? = some oj /\ oj.dst = some t /\ (s.anc.get jj).isSome
       · obtain ⟨jj, oj, g1, g2, g3⟩ := hw; refine .inl ⟨jj, oj, g1, g2, hok1 t ht jj oj g1 g2 g3, by rw [(hold jj g3).2]; exact g3, ?_⟩; exact (hts t (hnd jj oj t g3 g1 g2)).symm
       · refine .inr ⟨H.tsC t (fun jj oj g3 g1 g2 => hw ⟨jj, oj, g1, g2, g3⟩), ?_⟩; intro i' oi a g1 g2 g3; by_cases h2 : i' = j
         · exact .inl h2
         · rw [hanc, if_neg h2] at g3; exact absurd ⟨i', oi, g1, g2, by rw [g3]; rfl⟩ hw
   · have hj' : (s.anc.get j).isSome := by rw [hanc, if_neg h1] at hj; exact hj
     obtain ⟨oj, tj, vj, g1, g2, g3, g4⟩ := H.pend j hj' hx; refine ⟨oj, tj, vj, g1, ?_, ?_, ?_⟩
     · intro d hd hlt; rw [hts d (hnd j oj d hj' g1 hd)]; exact g2 d hd hlt
     · intro t ht; rcases g3 t ht with ⟨i1, oi1, k1, k2, k3, k4, k5⟩ | ⟨k1, k2⟩
       · refine .inl ⟨i1, oi1, k1, k2, k3, by rw [(hold i1 k4).2]; exact k4, ?_⟩; rw [k5, hts t (hnd i1 oi1 t k4 k1 k2)]
       · refine .inr ⟨k1, ?_⟩; intro i' oi a q1 q2 q3; rw [hanc] at q3; by_cases h2 : i' = i
         · subst h2; rw [if_pos rfl] at q3; rw [hi] at q1
           cases q1; cases q3; exact .inr ((hok2 t q2 j oj g1).2 hj' ht)
         · rw [if_neg h2] at q3; exact k2 i' oi a q1 q2 q3
     · have hnoA : (∀ x ∈ s.allocs, x.1 ≠ j) -> ∀ x ∈ s'.allocs, x.1 ≠ j := by
         intro hx x hm; rcases ea with ea | ⟨ea, _⟩ <;> rw [ea] at hm
         · exact hx x hm
         · rcases List.mem_cons.1 hm with rfl | hm
           · exact fun e => h1 e.symm
           · exact hx x hm
       rcases g4 with ⟨k1, k2, k3⟩ | ⟨k1, k2⟩
       · exact .inl ⟨k1, k2, hnoA k3⟩
       · refine .inr ⟨k1, ?_⟩; rcases k2 with k2 | ⟨b, h1', ob, m1, m2, m3, m4, m5⟩ | ⟨m1, m2, m3, hr', m4, m5⟩
         · exact .inl ⟨k2.1, hnoA k2.2⟩
         · refine .inr (.inl ⟨b, h1', ob, ?_, m2, m3, m4, eh _ _ m5⟩); rcases ea with ea | ⟨ea, _⟩ <;> rw [ea]
           · exact m1
           · refine ⟨List.mem_cons_of_mem _ m1.1, fun x hm e => ?_⟩; rcases List.mem_cons.1 hm with rfl | hm
             · exact absurd e.symm h1
             · exact m1.2 x hm e
         · refine .inr (.inr ⟨⟨er _ m1.1, hnoA m1.2⟩, m2, m3, hr', m4, ?_⟩); intro b ob hb; obtain ⟨n1, n2, n3⟩ := m5 b ob hb; refine ⟨n1, eh _ _ n2, ?_⟩; intro x hx'; rcases ea with ea | ⟨ea, _⟩ <;> rw [ea] at hx'
           · exact n3 x hx'
           · rcases List.mem_cons.1 hx' with rfl | hx'
             · have := H.hd b ob n2; simp only; omega
             · exact n3 x hx'
 · intro x hx; rcases ea with ea | ⟨ea, hnx⟩ <;> rw [ea] at hx
   · have := H.al x hx; exact ⟨by omega, by rw [(hold _ this.2.1).2]; exact this.2.1, this.2.2⟩
   · rcases List.mem_cons.1 hx with rfl | hx
     · exact ⟨by simp only; omega, by rw [hanc, if_pos rfl]; rfl, H.nx⟩
     · have := H.al x hx; exact ⟨by omega, by rw [(hold _ this.2.1).2]; exact this.2.1, this.2.2⟩
 · intro t ht; rw [e1, qaN, if_neg (fun h => absurd h.2 (Nat.not_lt.2 ht))]; exact H.tsw t ht
 · intro x hx y hy e; rcases ea with ea | ⟨ea, hnx⟩ <;> rw [ea] at hx hy
   · exact H.alu x hx y hy e
   · rcases List.mem_cons.1 hx with rfl | hx <;> rcases List.mem_cons.1 hy with rfl | hy
     · rfl
     · have := (H.al y hy).1; simp only at e; omega
     · have := (H.al x hx).1; simp only at e; omega
     · exact H.alu x hx y hy e
end
end Go.Am
namespace Go.Am
open Go.RowKit
variable [Inhabited DrP]
section
variable {tab : Tab} {ops : Array Oper} {nt lo : Nat} {ts0 : T AV} {s s' : DS} {X : Nat -> Prop} {i : Nat} {o : Oper} {v : AV}
theorem qfO (hf : qcs tab ops nt i o s = .ok (some s')) (hi : ops[i]? = some o) (hr : qa0 s.anc i o = true) (H : DInv tab ops nt ts0 lo s X) : DInv tab ops nt ts0 lo s' X := by
 unfold qcs at hf; obtain ⟨_, hck, hf1⟩ := zz0.1 hf; have hok := zz3.1 hck; obtain ⟨b, hb, hf2⟩ := zz0.1 hf1; clear hf hf1; have hnoA : ∀ x ∈ s.allocs, x.1 ≠ i := by
  intro x hx e; have := (H.al x hx).2.1; rw [e, (qbH hr).1] at this
  cases this
 cases b with
 | false =>
  simp only [Bool.not_false, if_true] at hf2
  cases hf2; exact H.float hi hr hok rfl rfl (fun _ _ h => h) (Nat.le_refl _) (.inl rfl) (fun _ h => h) H.hd (.inl ⟨hb, rfl, hnoA⟩)
 | true =>
  simp only [Bool.not_true, Bool.false_eq_true, if_false] at hf2; split at hf2
  · cases hf2
  ·
    obtain ⟨⟨u, h1⟩, hp, hf3⟩ := zz0.1 hf2; obtain ⟨_, hn, hf4⟩ := zz0.1 hf3; obtain ⟨ob, hob, hf5⟩ := zz0.1 hf4
    cases hf5; have hn := Nat.eq_of_beq_eq_true (zz3.1 hn); have hob := zz4.1 hob; refine H.float (v := u) hi hr hok rfl rfl ?_ (by simp) (.inr ⟨rfl, rfl⟩) (fun _ h => h) ?_ (.inr ⟨hb, .inr (.inl ⟨s.h.next, h1, ob, ⟨List.mem_cons_self, ?_⟩, hp, hn, hob, ?_⟩)⟩)
    · intro b ob' hg; have := H.hd b ob' hg; simp only; rw [AH.get_new, if_neg (by omega)]; exact hg
    · intro b ob' hg; simp only at hg ⊢; rw [AH.get_new] at hg; split at hg
      · simp only [AH.next_new]; omega
      · have := H.hd b ob' hg; simp only [AH.next_new]; omega
    · intro x hx e; rcases List.mem_cons.1 hx with rfl | hx
      · rfl
      · exact absurd e (hnoA x hx)
    · simp only; rw [AH.get_new, if_pos rfl]
  ·
    rename_i hne hna; split at hf2
    · rename_i u h1 hm; obtain ⟨_, hn, hf3⟩ := zz0.1 hf2
      cases hf3; have hn := Nat.eq_of_beq_eq_true (zz3.1 hn); have hp : qaH tab s.ts { t := .e, next := 0 } o = .ok (u, h1) := by
        split at hm
        · exact hm
        · cases hm
      exact H.float (v := u) hi hr hok rfl rfl (fun _ _ h => h) (Nat.le_refl _) (.inl rfl) (fun _ h => h) H.hd (.inr ⟨hb, .inl ⟨⟨h1, hp, hn⟩, hnoA⟩⟩)
    · split at hf2
      · rename_i u h1 hp
        cases hf2; have hsame := qdj (tab := tab) (o := o) ⟨fun e => hne (by rw [e]), fun e => hna (by rw [e])⟩ hp; subst hsame; refine H.float (v := u) hi hr hok rfl rfl (fun _ _ h => h) (Nat.le_refl _) (.inl rfl) (fun _ h => List.mem_cons_of_mem _ h) H.hd
          (.inr ⟨hb, .inr (.inr ⟨⟨List.mem_cons_self, hnoA⟩, fun e => hne (by rw [e]), fun e => hna (by rw [e]), _, hp, ?_⟩)⟩)
        intro b ob hg; rw [qar] at hg; split at hg
        · cases hg
        · rename_i hnx; refine ⟨by rw [qat]; exact H.hd b ob hg, hg, fun x hx e => hnx ⟨x, hx, e⟩⟩
      · cases hf2
theorem qdc : ∀ (l : List Oper) (k : Nat) (s s' : DS), (∀ j o, l[j]? = some o -> ops[k + j]? = some o) -> qbp tab ops nt k l s = .ok s' -> DInv tab ops nt ts0 lo s X -> DInv tab ops nt ts0 lo s' X := by
 intro l; induction l with
 | nil => intro k s s' _ h H; simp only [qbp] at h; cases h; exact H
 | cons o l ih =>
  intro k s s' hl h H; have hl' : ∀ j o', l[j]? = some o' -> ops[k + 1 + j]? = some o' := by
    intro j o' hj; have := hl (j + 1) o' (by simpa using hj); rw [show k + 1 + j = k + (j + 1) from by omega]; exact this
  simp only [qbp] at h; by_cases hr : qa0 s.anc k o = true
  · simp only [hr, cond_true] at h; obtain ⟨x, hx, h1⟩ := zz0.1 h
    cases x with
    | none => exact ih (k + 1) s s' hl' h1 H
    | some s1 => exact ih (k + 1) s1 s' hl' h1 (qfO hx (by simpa using hl 0 o rfl) hr H)
  · have : qa0 s.anc k o = false := by simpa using hr
    simp only [this, cond_false] at h; exact ih (k + 1) s s' hl' h H
theorem qlp : ∀ (l : List Oper) (k : Nat) (anc : T (List Nat)) (j : Nat) (o : Oper), l[j]? = some o -> qa0 anc (k + j) o = true -> (k + j, o) ∈ qc9 anc k l := by
 intro l; induction l with
 | nil => intro k anc j o h; simp at h
 | cons x l ih =>
  intro k anc j o hj hr; simp only [qc9]
  cases j with
  | zero =>
   simp only [List.getElem?_cons_zero, Option.some.injEq] at hj; subst hj; simp only [Nat.add_zero] at hr ⊢; simp [hr]
  | succ j =>
   have h1 := ih (k + 1) anc j o (by simpa using hj) (by rw [show k + 1 + j = k + (j + 1) from by omega]; exact hr); rw [show k + 1 + j = k + (j + 1) from by omega] at h1
   cases qa0 anc k x
   · exact h1
   · exact List.mem_cons_of_mem _ h1
theorem qgu : ∀ (l : List Oper) (k : Nat) (anc : T (List Nat)) (j : Nat) (o : Oper), (j, o) ∈ qc9 anc k l -> ∃ j', j = k + j' /\ l[j']? = some o /\ qa0 anc j o = true := by
 intro l; induction l with
 | nil => intro k anc j o h; simp [qc9] at h
 | cons x l ih =>
  intro k anc j o h; simp only [qc9] at h
  cases hr : qa0 anc k x with
  | true =>
   rw [hr] at h; simp only [cond_true] at h; rcases List.mem_cons.1 h with e | h
   · cases e; exact ⟨0, rfl, rfl, hr⟩
   · obtain ⟨j', h1, h2, h3⟩ := ih (k + 1) anc j o h; exact ⟨j' + 1, by omega, by simpa using h2, h3⟩
  | false =>
   rw [hr] at h; simp only [cond_false] at h; obtain ⟨j', h1, h2, h3⟩ := ih (k + 1) anc j o h; exact ⟨j' + 1, by omega, by simpa using h2, h3⟩
end
end Go.Am
namespace Go.Am
open Go.RowKit
variable [Inhabited DrP]
structure RInv (ops : Array Oper) (fr0 : AFrame) (cs : List AFrame) (k : List AItem) (base : List Frame) (s : DS) (X : Nat -> Prop) (D : Nat -> Prop) (E : Env) (K : KS)
  (tsR : T AV) (hR : AH) (l : List Nat) (frC : Frame) (csC : List Frame) (w : World) : Prop where
 rel : Rel D E K { fr := { fr0 with tmps := tsR, todo := .inRegion ops l :: k }, cs, h := hR } base frC csC w
 hr : ∀ i ob, hR.get i = some ob ↔ s.h.get i = some ob /\ ∀ x ∈ s.allocs, x.2 = i -> X x.1
 hn : hR.next = s.h.next
 tr1 : ∀ j o t, X j -> ops[j]? = some o -> o.dst = some t -> tsR.get t = s.ts.get t
 tr0 : ∀ t, (∀ j o, X j -> ops[j]? = some o -> o.dst ≠ some t) -> tsR.get t = fr0.tmps.get t
 dp : ∀ x ∈ s.allocs, ¬ X x.1 -> ¬ D x.2
section
variable {P : Program} {tab : Tab} (ok : TabOK P tab)
variable {D : Nat -> Prop} {E : Env} {K : KS} {base : List Frame} {frC : Frame} {csC : List Frame} {w : World}
variable {ops : Array Oper} {fr0 : AFrame} {cs : List AFrame} {k : List AItem} {lo : Nat} {s : DS} {X : Nat -> Prop} {tsR : T AV} {hR : AH} {j : Nat} {l : List Nat} {o : Oper} {v : AV}
theorem qo2 {fr fr' : AFrame} {h : AH} {i : Nat} {rest : List Nat} {k : List AItem} (hR : Rel D E K { fr, cs, h } base frC csC w) (hm : fr.mode = .run) (ht : fr.todo = .inRegion ops (i :: rest) :: k) (ho : ops[i]? = some o) (hw : wanted ops o fr.tmps = .ok false)
  (hf : fr.finish (.tup []) = .ok fr') : qnn P (lone frC csC w) D (fun _ => False) E K { fr := fr', cs, h } base w := by
 have hfc := qaO hf; refine hR.oneN (m' := { fr := fr', cs, h }) _ _ (fun _ => (0, 0)) (fun _ h => h.elim) (fun i hi => hi.elim (hR.dom i) False.elim) ⟨(hfc E).2.1 hR.wf.1, hR.wf.2⟩ ?_; intro E' he H e1 e2 _; refine ⟨w, step_lone_go ?_, H, Kept.refl K w⟩; have hw' := qex hR.wf.1 hw E'; rw [<- (hfc E').1, <- e1, <- e2]; have h1 : (qak E' fr).todo = .inRegion ops (i :: rest) :: k.map (qaV E') := by simp [qak, ht, qaV]
 have h2 : (qak E' fr).mode = .run := by simp [qak, hm, qbl]
 have h3 : Region.wanted o (yielded ops (qak E' fr).tmps) = false := hw'; simp only; generalize qak E' fr = g at *
 unfold stepG stepG.exec; simp [h1, h2, ho, h3]; rfl
theorem qot (H : DInv tab ops fr0.nt fr0.tmps lo s X) (R : RInv ops fr0 cs k base s X D E K tsR hR l frC csC w) {tj : T AV} (hl : Look ops fr0.tmps s j o tj) (hx : ¬ X j) (hready : ∀ p ∈ qcz o, X p) :
   ∀ t ∈ qhr ops o, tsR.get t = tj.get t := by
 intro t ht; rcases hl t ht with ⟨i, oi, h1, h2, h3, _, h5⟩ | ⟨h1, h2⟩
 · rw [h5, R.tr1 i oi t (hready i h3) h1 h2]
 · rw [h1]; refine R.tr0 t (fun i oi hi hoi hd => ?_); have hc := H.cx i hi
   cases ha : s.anc.get i with
   | none => rw [ha] at hc; cases hc
   | some a =>
    rcases h2 i oi a hoi hd ha with e | hm
    · exact hx (e ▸ hi)
    · exact hx (H.xdn i a hi ha j hm)
theorem DInv.come (H : DInv tab ops fr0.nt fr0.tmps lo s X) (hC : (s.anc.get j).isSome) (ho : ops[j]? = some o) (hready : ∀ p ∈ qcz o, X p) : DInv tab ops fr0.nt fr0.tmps lo s (fun i => X i \/ i = j) := by
 refine ⟨?_, ?_, H.op, H.shape, H.uniq, H.tsC, fun i hi hx => H.pend i hi (fun h => hx (.inl h)), H.al, H.nx, H.tsw, H.alu, H.hd⟩
 · rintro i (hi | rfl)
   · exact H.cx i hi
   · exact hC
 · rintro i a (hi | rfl) ha x hx
   · exact .inl (H.xdn i a hi ha x hx)
   · obtain ⟨g1, g2⟩ := H.shape i a o ha ho; rcases g2 x hx with hp | ⟨p, hp, ap, h1, h2⟩
     · exact .inl (hready x hp)
     · exact .inl (H.xdn p ap (hready p hp) h1 x h2)
theorem quQ (H : DInv tab ops fr0.nt fr0.tmps lo s X) (R : RInv ops fr0 cs k base s X D E K tsR hR l frC csC w) (hC : (s.anc.get j).isSome) (ho : ops[j]? = some o) (hdst : ∀ d, o.dst = some d -> d < fr0.nt -> s.ts.get d = some v) :
   (∀ i oi t, (X i \/ i = j) -> ops[i]? = some oi -> oi.dst = some t -> (qaU fr0.nt tsR o v).get t = s.ts.get t) /\
   (∀ t, (∀ i oi, (X i \/ i = j) -> ops[i]? = some oi -> oi.dst ≠ some t) -> (qaU fr0.nt tsR o v).get t = fr0.tmps.get t) := by
 constructor
 · intro i oi t hi hoi hd; rw [qaN]; by_cases h1 : o.dst = some t /\ t < fr0.nt
   · rw [if_pos h1, hdst t h1.1 h1.2]
   · rw [if_neg h1]; rcases hi with hi | rfl
     · exact R.tr1 i oi t hi hoi hd
     · rw [ho] at hoi
       cases hoi; have hge : fr0.nt <= t := Nat.le_of_not_lt (fun hlt => h1 ⟨hd, hlt⟩); rw [H.tsw t hge]; exact R.rel.wf.1 t hge
 · intro t ht; rw [qaN, if_neg (fun h => ht j o (.inr rfl) ho h.1)]; exact R.tr0 t (fun i oi hi hoi => ht i oi (.inl hi) hoi)
theorem qel (ho : ops[j]? = some o) (v : AV) : AFrame.finish { fr0 with tmps := tsR, todo := .inRegion ops (j :: l) :: k } v = .ok { fr0 with tmps := qaU fr0.nt tsR o v, todo := .inRegion ops l :: k } := by
 unfold AFrame.finish; simp only [ho, Option.bind_some]; congr 1
end
end Go.Am
namespace Go.Am
open Go.RowKit
variable [Inhabited DrP]
section
variable {P : Program} {tab : Tab} (ok : TabOK P tab) {sub : FuncId -> List AV -> AH -> R (List (AV × AH))} (hsub : qeA P tab sub) (hext : qez P tab)
variable {D : Nat -> Prop} {E : Env} {K : KS} {base : List Frame} {frC : Frame} {csC : List Frame} {w : World}
variable {ops : Array Oper} {fr0 : AFrame} {cs : List AFrame} {k : List AItem} {lo : Nat} {s : DS} {X : Nat -> Prop} {tsR : T AV} {hR : AH} {j : Nat} {l : List Nat} {o : Oper} {v : AV}
def qhu (P : Program) (ops : Array Oper) (fr0 : AFrame) (cs : List AFrame) (k : List AItem) (base : List Frame) (s : DS) (X : Nat -> Prop) (D : Nat -> Prop) (E : Env) (K : KS) (lo : Nat) (l : List Nat) (frC : Frame) (csC : List Frame) (w : World) : Prop :=
 ∃ tsR' hR' frC' csC' w' D' E', Steps P (lone frC csC w) (lone frC' csC' w') /\ RInv ops fr0 cs k base s X D' E' K tsR' hR' l frC' csC' w' /\ Agree D E E' /\ (∀ i, D i -> D' i) /\ Kept K w w' /\ (∀ i, D' i -> D i \/ lo <= i)
include ok in
theorem qjl (H : DInv tab ops fr0.nt fr0.tmps lo s X) (R : RInv ops fr0 cs k base s X D E K tsR hR (j :: l) frC csC w) (hm : fr0.mode = .run) (ho : ops[j]? = some o) (hC : (s.anc.get j).isSome) (hx : ¬ X j)
   (hready : ∀ p ∈ qcz o, X p) : qhu P ops fr0 cs k base s (fun i => X i \/ i = j) D E K lo l frC csC w := by
 obtain ⟨o', tj, v, ho', hdst, hlook, hkind⟩ := H.pend j hC hx; rw [ho] at ho'
 cases ho'; have hl := qot H R hlook hx hready; obtain ⟨hops, hwant⟩ := qfv hl; obtain ⟨htr1, htr0⟩ := quQ H R hC ho hdst; have hfin := qel (fr0 := fr0) (tsR := tsR) (l := l) (k := k) ho v; have hdomR := (R.rel.all E (Agree.refl _ _)).1.dom; have wrap : ∀ (N : Nat -> Prop) (hR2 : AH), qnn P (lone frC csC w) D N E K { fr := { fr0 with tmps := qaU fr0.nt tsR o v, todo := .inRegion ops l :: k }, cs, h := hR2 } base w ->
     (∀ i ob, hR2.get i = some ob ↔ s.h.get i = some ob /\ ∀ x ∈ s.allocs, x.2 = i -> X x.1 \/ x.1 = j) -> hR2.next = s.h.next -> (∀ i, N i -> (j, i) ∈ s.allocs) ->
     qhu P ops fr0 cs k base s (fun i => X i \/ i = j) D E K lo l frC csC w := by
   intro N hR2 hg hchar hnx hN; obtain ⟨frC', csC', w', E1, s1, s2, s3, s4⟩ := hg; refine ⟨_, hR2, frC', csC', w', _, E1, s1, ⟨s2, hchar, hnx, htr1, htr0, ?_⟩, s3, fun i hi => .inl hi, s4, fun i hi => hi.elim .inl (fun h => .inr ((H.al _ (hN i h)).2.2))⟩; rintro x hxm hnx' (hd | hn)
   · exact R.dp x hxm (fun h => hnx' (.inl h)) hd
   · have := H.alu x hxm _ (hN _ hn) rfl; exact hnx' (.inr (by rw [this]))
 have hcharA : (∀ x ∈ s.allocs, x.1 ≠ j) -> ∀ i ob, hR.get i = some ob ↔ s.h.get i = some ob /\ ∀ x ∈ s.allocs, x.2 = i -> X x.1 \/ x.1 = j := by
   intro hno i ob; rw [R.hr i ob]; constructor
   · rintro ⟨h1, h2⟩; exact ⟨h1, fun x hx e => .inl (h2 x hx e)⟩
   · rintro ⟨h1, h2⟩; exact ⟨h1, fun x hx e => (h2 x hx e).resolve_right (hno x hx)⟩
 rcases hkind with ⟨hw, rfl, hno⟩ | ⟨hw, hk⟩
 · exact wrap _ hR (qo2 R.rel hm rfl ho (by rw [hwant]; exact hw) hfin) (hcharA hno) R.hn (fun _ h => h.elim)
 · have a := atOp R.rel hm rfl ho (by rw [hwant]; exact hw); rcases hk with ⟨⟨h1, hp, hn1⟩, hno⟩ | ⟨b, h1, ob, ⟨hb1, hb2⟩, hp, hn1, hob, hsb⟩ | ⟨⟨_, hno⟩, _, _, hr, hp, hrr⟩
   · refine wrap _ hR (qcV ok R.rel a (h0 := { t := .e, next := 0 }) (h1 := h1) (h2 := hR) (by rw [qcc o hops]; exact hp) hfin ?_ ?_ ?_ (fun i o h => .inl (hdomR i o h)) (fun _ => False) ?_ (fun _ h => h.elim) (fun i hi => hi.elim (R.rel.dom i) False.elim)) (hcharA hno) R.hn (fun _ h => h.elim)
     · intro i o' h; cases h
     · intro i o' h; cases h
     · intro i o' h; exact .inr ⟨h, rfl⟩
     · intro h; simp only at h; omega
   · have hbn := (H.al _ hb1).1; have hget : ∀ i, (hR.set b ob).get i = if i = b then some ob else hR.get i := fun i => AH.get_set _ _ _ _
     refine wrap (fun i => i = b) (hR.set b ob) (qcV ok R.rel a (h0 := { t := .e, next := b }) (h1 := h1) (h2 := hR.set b ob) (by rw [qcc o hops]; exact hp) hfin ?_ ?_ ?_ ?_ (fun i => i = b) ?_ ?_ ?_) ?_ R.hn ?_
     · intro i o' h; cases h
     · intro i o' h; cases h
     · intro i o' h; rw [hget] at h; by_cases e : i = b
       · subst e; rw [if_pos rfl] at h; exact .inl (hob.trans h)
       · rw [if_neg e] at h; exact .inr ⟨h, rfl⟩
     · intro i o' h; rw [hget] at h; simp only [AH.next_set]; left; by_cases e : i = b
       · rw [e, R.hn]; exact hbn
       · rw [if_neg e] at h; exact hdomR i o' h
     · intro _; rfl
     · rintro i rfl; exact ⟨rfl, R.dp _ hb1 hx⟩
     · rintro i (hi | rfl)
       · exact R.rel.dom i hi
       · simp only [AH.next_set]; rw [R.hn]; exact hbn
     · intro i ob'; rw [hget]; by_cases e : i = b
       · subst e; rw [if_pos rfl, hsb]; constructor
         · intro h; refine ⟨h, fun x hx e => .inr ?_⟩; rw [H.alu x hx _ hb1 e]
         · exact fun h => h.1
       · rw [if_neg e, R.hr i ob']; constructor
         · rintro ⟨h1, h2⟩; exact ⟨h1, fun x hx e => .inl (h2 x hx e)⟩
         · rintro ⟨h1, h2⟩; refine ⟨h1, fun x hx e' => (h2 x hx e').resolve_right (fun ej => e ?_)⟩; rw [<- e', hb2 x hx ej]
     · rintro i rfl; exact hb1
   · refine wrap _ hR (qcV ok R.rel a (h0 := hr) (h1 := hr) (h2 := hR) (by rw [qcc o hops]; exact hp) hfin ?_ ?_ ?_ (fun i o h => .inl (hdomR i o h)) (fun _ => False) ?_ (fun _ h => h.elim) (fun i hi => hi.elim (R.rel.dom i) False.elim)) (hcharA hno) R.hn (fun _ h => h.elim)
     · intro i o' h; obtain ⟨g1, g2, g3⟩ := hrr i o' h; exact (R.hr i o').2 ⟨g2, fun x hx e => absurd e (g3 x hx)⟩
     · intro i o' h; exact (hrr i o' h).1
     · intro i o' h
       cases hg : hr.get i with
       | none => exact .inr ⟨h, rfl⟩
       | some ob' =>
         left; have := (hrr i ob' hg).2.1; rw [((R.hr i o').1 h).1] at this; exact this.symm
     · intro h; omega
end
end Go.Am
namespace Go.Am
open Go.RowKit
variable [Inhabited DrP]
section
variable {tab : Tab} {ops : Array Oper} {nt lo : Nat} {ts0 : T AV} {s s' : DS} {X : Nat -> Prop} {i : Nat} {o : Oper} {v : AV}
theorem DInv.eff (H : DInv tab ops nt ts0 lo s X) (hi : ops[i]? = some o) (hr : qa0 s.anc i o = true) (hok : opOk s.anc ops i o = true) (hanX : ∀ p ∈ qaW s.anc o, X p)
   (e1 : s'.ts = qaU nt s.ts o v) (e2 : s'.anc = s.anc.set i (some (qaW s.anc o))) (en : s.h.next <= s'.h.next)
   (ea : ∀ x ∈ s'.allocs, x ∈ s.allocs) (ea' : ∀ x ∈ s.allocs, x.1 ∉ qaW s.anc o -> x ∈ s'.allocs) (eh : ∀ x ∈ s'.allocs, s'.h.get x.2 = s.h.get x.2) (hd' : ∀ b ob, s'.h.get b = some ob -> b < s'.h.next)
   (er : ∀ j oj tj vj, (j, tj, vj) ∈ s.reads -> j ∉ qaW s.anc o -> ops[j]? = some oj -> cls tab oj ≠ .eff -> cls tab oj ≠ .alloc -> (j, tj, vj) ∈ s'.reads /\ ∃ hr, qaH tab tj hr oj = .ok (vj, hr) /\ ∀ b ob, hr.get b = some ob -> b < hr.next /\ s'.h.get b = some ob /\ ∀ x ∈ s'.allocs, x.2 ≠ b) :
   DInv tab ops nt ts0 lo s' (fun j => X j \/ j = i) := by
 obtain ⟨hnone, hpre⟩ := qbH hr; obtain ⟨hok1, hok2⟩ := qiH hok; have hanc : ∀ j, s'.anc.get j = if j = i then some (qaW s.anc o) else s.anc.get j := by
   intro j; rw [e2, T.get_set]
 have hold : ∀ j, (s.anc.get j).isSome -> j ≠ i /\ s'.anc.get j = s.anc.get j := by
   intro j hj; have hne : j ≠ i := by intro e; subst e; rw [hnone] at hj; cases hj
   exact ⟨hne, by rw [hanc, if_neg hne]⟩
 have hnd : ∀ j oj d, (s.anc.get j).isSome -> ops[j]? = some oj -> oj.dst = some d -> o.dst ≠ some d := by
   intro j oj d hj hoj hd hod; have := H.uniq j i oj o d hj hoj hi hd hod; exact (hold j hj).1 this
 have hts : ∀ t, o.dst ≠ some t -> s'.ts.get t = s.ts.get t := by
   intro t ht; rw [e1, qaN, if_neg]; rintro ⟨h, _⟩; exact ht h
 refine ⟨?_, ?_, ?_, ?_, ?_, ?_, ?_, ?_, Nat.le_trans H.nx en, ?_, ?_, hd'⟩
 · rintro j (hj | rfl)
   · rw [(hold j (H.cx j hj)).2]; exact H.cx j hj
   · rw [hanc, if_pos rfl]; rfl
 · rintro j a (hj | rfl) ha p hp
   · rw [(hold j (H.cx j hj)).2] at ha; exact .inl (H.xdn j a hj ha p hp)
   · rw [hanc, if_pos rfl] at ha
     cases ha; exact .inl (hanX p hp)
 · intro j hj; rw [hanc] at hj; by_cases h1 : j = i
   · subst h1; exact ⟨o, hi⟩
   · rw [if_neg h1] at hj; exact H.op j hj
 · intro j a oj ha hoj; rw [hanc] at ha; by_cases h1 : j = i
   · subst h1; rw [if_pos rfl] at ha; rw [hi] at hoj
     cases ha; cases hoj; refine ⟨fun p hp => ⟨mem_ancOf.2 (.inl hp), ?_⟩, fun x hx => ?_⟩
     · rw [(hold p (hpre p hp)).2]; exact hpre p hp
     · rcases mem_ancOf.1 hx with h | ⟨p, hp, ap, h1, h2⟩
       · exact .inl h
       · exact .inr ⟨p, hp, ap, by rw [(hold p (by rw [h1]; rfl)).2]; exact h1, h2⟩
   · rw [if_neg h1] at ha; obtain ⟨g1, g2⟩ := H.shape j a oj ha hoj; refine ⟨fun p hp => ⟨(g1 p hp).1, ?_⟩, fun x hx => ?_⟩
     · rw [(hold p (g1 p hp).2).2]; exact (g1 p hp).2
     · rcases g2 x hx with h | ⟨p, hp, ap, h1, h2⟩
       · exact .inl h
       · exact .inr ⟨p, hp, ap, by rw [(hold p (by rw [h1]; rfl)).2]; exact h1, h2⟩
 · intro a b oa ob d ha hoa hob hda hdb; rw [hanc] at ha; by_cases h1 : a = i
   · subst h1; rw [hi] at hoa; cases hoa; exact (hok2 d hda b ob hob).1 hdb
   · rw [if_neg h1] at ha; exact H.uniq a b oa ob d ha hoa hob hda hdb
 · intro t ht; have h1 : o.dst ≠ some t := ht i o (by rw [hanc, if_pos rfl]; rfl) hi; rw [hts t h1]; exact H.tsC t (fun j oj hj hoj => ht j oj (by rw [(hold j hj).2]; exact hj) hoj)
 · intro j hj hx; have h1 : j ≠ i := fun e => hx (.inr e)
   have hxj : ¬ X j := fun h => hx (.inl h)
   have hjan : j ∉ qaW s.anc o := fun h => hxj (hanX j h)
   have hj' : (s.anc.get j).isSome := by rw [hanc, if_neg h1] at hj; exact hj
   obtain ⟨oj, tj, vj, g1, g2, g3, g4⟩ := H.pend j hj' hxj; refine ⟨oj, tj, vj, g1, ?_, ?_, ?_⟩
   · intro d hd hlt; rw [hts d (hnd j oj d hj' g1 hd)]; exact g2 d hd hlt
   · intro t ht; rcases g3 t ht with ⟨i1, oi1, k1, k2, k3, k4, k5⟩ | ⟨k1, k2⟩
     · refine .inl ⟨i1, oi1, k1, k2, k3, by rw [(hold i1 k4).2]; exact k4, ?_⟩; rw [k5, hts t (hnd i1 oi1 t k4 k1 k2)]
     · refine .inr ⟨k1, ?_⟩; intro i' oi a q1 q2 q3; rw [hanc] at q3; by_cases h2 : i' = i
       · subst h2; rw [if_pos rfl] at q3; rw [hi] at q1
         cases q1; cases q3; exact .inr ((hok2 t q2 j oj g1).2 hj' ht)
       · rw [if_neg h2] at q3; exact k2 i' oi a q1 q2 q3
   · rcases g4 with ⟨k1, k2, k3⟩ | ⟨k1, k2⟩
     · exact .inl ⟨k1, k2, fun x hx => k3 x (ea x hx)⟩
     · refine .inr ⟨k1, ?_⟩; rcases k2 with k2 | ⟨b, h1', ob, m1, m2, m3, m4, m5⟩ | ⟨m1, m2, m3, _⟩
       · exact .inl ⟨k2.1, fun x hx => k2.2 x (ea x hx)⟩
       · have hm := ea' _ m1.1 hjan; exact .inr (.inl ⟨b, h1', ob, ⟨hm, fun x hx => m1.2 x (ea x hx)⟩, m2, m3, m4, (eh _ hm).trans m5⟩)
       · obtain ⟨q1, q2⟩ := er j oj tj vj m1.1 hjan g1 m2 m3; exact .inr (.inr ⟨⟨q1, fun x hx => m1.2 x (ea x hx)⟩, m2, m3, q2⟩)
 · intro x hx; have := H.al x (ea x hx); exact ⟨by omega, by rw [(hold _ this.2.1).2]; exact this.2.1, this.2.2⟩
 · intro t ht; rw [e1, qaN, if_neg (fun h => absurd h.2 (Nat.not_lt.2 ht))]; exact H.tsw t ht
 · intro x hx y hy e; exact H.alu x (ea x hx) y (ea y hy) e
theorem qjR {h : AH} : ∀ (l : List (Nat × T AV × AV)), reread tab ops h l = .ok () -> ∀ j tj vj, (j, tj, vj) ∈ l -> ∃ oj h', ops[j]? = some oj /\ qaH tab tj h oj = .ok (vj, h') := by
 intro l; induction l with
 | nil => intro _ j tj vj hm; cases hm
 | cons x l ih =>
  intro h j tj vj hm; obtain ⟨i, ts, v⟩ := x; simp only [reread] at h; obtain ⟨o, ho, h1⟩ := zz0.1 h; obtain ⟨⟨u, h'⟩, hp, h2⟩ := zz0.1 h1; obtain ⟨_, hb, h3⟩ := zz0.1 h2; have hb := AV.beq_eq _ _ (zz3.1 hb); rcases List.mem_cons.1 hm with e | hm
  · cases e; exact ⟨o, h', zz4.1 ho, by rw [<- hb]; exact hp⟩
  · exact ih h3 j tj vj hm
end
end Go.Am
namespace Go.Am
open Go.RowKit
variable [Inhabited DrP]
section
variable {P : Program} {tab : Tab} (ok : TabOK P tab) {sub : FuncId -> List AV -> AH -> R (List (AV × AH))} (hsub : qeA P tab sub) (hext : qez P tab)
variable {D : Nat -> Prop} {E : Env} {K : KS} {base : List Frame} {frC : Frame} {csC : List Frame} {w : World}
variable {ops : Array Oper} {fr0 : AFrame} {cs : List AFrame} {k : List AItem} {lo : Nat} {s s2 : DS} {X : Nat -> Prop} {tsR : T AV} {hR : AH} {j : Nat} {l : List Nat} {o : Oper}
open Classical in
include ok hsub hext in
theorem qqb (H : DInv tab ops fr0.nt fr0.tmps lo s X) (Q : RInv ops fr0 cs k base s X D E K tsR hR (j :: l) frC csC w) (hm : fr0.mode = .run) (ho : ops[j]? = some o) (hr : qa0 s.anc j o = true)
   (hd : qip tab sub ops fr0.nt j o s = .ok s2) (hready : ∀ p ∈ qcz o, X p) : DInv tab ops fr0.nt fr0.tmps lo s2 (fun i => X i \/ i = j) /\ qhu P ops fr0 cs k base s2 (fun i => X i \/ i = j) D E K lo l frC csC w := by
 unfold qip at hd; obtain ⟨_, hck, hd1⟩ := zz0.1 hd; obtain ⟨b, hb, hd2⟩ := zz0.1 hd1; obtain ⟨_, hbt, hd3⟩ := zz0.1 hd2; obtain ⟨⟨v, h1⟩, hp, hd4⟩ := zz0.1 hd3; obtain ⟨_, hle, hd5⟩ := zz0.1 hd4; obtain ⟨_, hrr, hd6⟩ := zz0.1 hd5; clear hd hd1 hd2 hd3 hd4 hd5
 cases hd6; have hok := zz3.1 hck; have hbt : b = true := zz3.1 hbt; subst hbt; have hle := Nat.le_of_ble_eq_true (zz3.1 hle); obtain ⟨hnone, hpre⟩ := qbH hr; obtain ⟨hok1, hok2⟩ := qiH hok; have hxj : ¬ X j := fun h => by have := H.cx j h; rw [hnone] at this; cases this
 have hanX : ∀ p ∈ qaW s.anc o, X p := by
   intro p hp; rcases mem_ancOf.1 hp with h | ⟨q, hq, ap, h1, h2⟩
   · exact hready p h
   · exact H.xdn q ap (hready q hq) h1 p h2
 generalize hhid : (s.allocs.filter fun x => !(memN x.1 (qaW s.anc o))) = hid at *
 have hidm : ∀ x, x ∈ hid ↔ x ∈ s.allocs /\ x.1 ∉ qaW s.anc o := by
   intro x; rw [<- hhid, List.mem_filter]; constructor
   · rintro ⟨h1, h2⟩; refine ⟨h1, fun hm => ?_⟩; rw [memN_iff.2 hm] at h2; cases h2
   · rintro ⟨h1, h2⟩; refine ⟨h1, ?_⟩
     cases hb : memN x.1 (qaW s.anc o) with
     | true => exact absurd (memN_iff.1 hb) h2
     | false => rfl
 have hidj : ∀ x ∈ hid, x.1 ≠ j := by
   intro x hx e; have := (H.al x ((hidm x).1 hx).1).2.1; rw [e, hnone] at this; cases this
 have hl : ∀ t ∈ qhr ops o, tsR.get t = s.ts.get t := by
   intro t ht; by_cases hw : ∃ jj oj, ops[jj]? = some oj /\ oj.dst = some t /\ (s.anc.get jj).isSome
   · obtain ⟨jj, oj, g1, g2, g3⟩ := hw; exact Q.tr1 jj oj t (hready jj (hok1 t ht jj oj g1 g2 g3)) g1 g2
   · rw [Q.tr0 t (fun jj oj hx hoj hd => hw ⟨jj, oj, hoj, hd, H.cx jj hx⟩), H.tsC t (fun jj oj hc hoj hd => hw ⟨jj, oj, hoj, hd, hc⟩)]
 obtain ⟨hops, hwant⟩ := qfv hl; have a := atOp Q.rel hm rfl ho (by rw [hwant]; exact hb); have hfin := qel (fr0 := fr0) (tsR := tsR) (l := l) (k := k) ho v; let h2 := qa9 h1 s.h hid
 let pd := hid.filter fun x => decide (¬ (X x.1 \/ x.1 = j))
 let hR2 := qa5 h2 pd
 have hg2 : ∀ i, h2.get i = if ∃ x ∈ hid, x.2 = i then s.h.get i else h1.get i := fun i => qbe _ _ _ _
 have hn2 : h2.next = h1.next := qbK _ _ _; have hchar : ∀ i ob, hR2.get i = some ob ↔ h2.get i = some ob /\ ∀ x ∈ hid, x.2 = i -> X x.1 \/ x.1 = j := by
   intro i ob; simp only [hR2, qar]; constructor
   · intro h; split at h
     · cases h
     · rename_i hne; refine ⟨h, fun x hx e => ?_⟩; by_cases hc : X x.1 \/ x.1 = j
       · exact hc
       · exact absurd ⟨x, by simp only [pd, List.mem_filter]; exact ⟨hx, by simpa using hc⟩, e⟩ hne
   · rintro ⟨h1, h2⟩; rw [if_neg]
     · exact h1
     · rintro ⟨x, hx, e⟩; simp only [pd, List.mem_filter] at hx; have := h2 x hx.1 e; exact absurd this (by simpa using hx.2)
 have hR2n : hR2.next = h1.next := (qat _ _).trans hn2; have hgets := qp7 ok hsub hext Q.rel a (h0 := qa5 s.h hid) (h1 := h1) (h2 := hR2) (v := v) (by rw [qkx o hops]; exact hp) hfin
   (by
     intro i ob h; rw [qar] at h; split at h
     · cases h
     · rename_i hne; refine (Q.hr i ob).2 ⟨h, fun x hx e => ?_⟩; by_cases hc : x.1 ∈ qaW s.anc o
       · exact hanX _ hc
       · exact absurd ⟨x, (hidm x).2 ⟨hx, hc⟩, e⟩ hne)
   (by
     intro i ob h; rw [qar] at h; split at h
     · cases h
     · rw [qat]; exact H.hd i ob h)
   (by
     intro i ob h; obtain ⟨h3, h4⟩ := (hchar i ob).1 h; rw [hg2] at h3; split at h3
     · rename_i hex; right; refine ⟨(Q.hr i ob).2 ⟨h3, fun x hx e => ?_⟩, by rw [qar, if_pos hex]⟩; obtain ⟨y, hy, e'⟩ := hex; have : x = y := H.alu x hx y ((hidm y).1 hy).1 (e.trans e'.symm); subst this; exact (h4 x hy e').resolve_right (hidj x hy)
     · exact .inl h3)
   (by
     intro i ob h; obtain ⟨h3, _⟩ := (hchar i ob).1 h; rw [hg2] at h3; rw [hR2n]; split at h3
     · have := H.hd i ob h3; left; omega
     · exact .inr ⟨h3, Nat.le_refl _⟩)
   (by rw [qat]; exact hle) hR2n (by intro i hi; rw [qat, <- Q.hn]; exact Q.rel.dom i hi)
 obtain ⟨frC', csC', w', E1, D1, s1, rel1, ag1, dd1, kp1, _, new1⟩ := hgets; rw [qat] at new1; have hdom2 : ∀ i ob, h2.get i = some ob -> i < h2.next := by
   intro i ob h; rw [hn2]; rw [hg2] at h; split at h
   · have := H.hd i ob h; omega
   · rename_i hne; have h3 := (hchar i ob).2 ⟨by rw [hg2, if_neg hne]; exact h, fun x hx e => absurd ⟨x, hx, e⟩ hne⟩; have := (rel1.all E1 (Agree.refl _ _)).1.dom i ob h3; rw [<- hR2n]; exact this
 refine ⟨?_, qaU fr0.nt tsR o v, hR2, frC', csC', w', D1, E1, s1, ⟨rel1, hchar, hR2n.trans hn2.symm, ?_, ?_, ?_⟩, ag1, dd1, kp1, ?_⟩
 · refine H.eff ho hr hok hanX rfl rfl (by simp only; rw [qbK]; exact hle) (fun x hx => ((hidm x).1 hx).1) (fun x hx hn => (hidm x).2 ⟨hx, hn⟩) ?_ hdom2 ?_
   · intro x hx; show h2.get x.2 = s.h.get x.2
     rw [hg2, if_pos ⟨x, hx, rfl⟩]
   · intro j' oj tj vj hmr hjan hoj hce hca; have hmf : (j', tj, vj) ∈ s.reads.filter (fun x => !(memN x.1 (qaW s.anc o))) := by
       rw [List.mem_filter]; refine ⟨hmr, ?_⟩
       cases hb : memN j' (qaW s.anc o) with
       | true => exact absurd (memN_iff.1 hb) hjan
       | false => rfl
     refine ⟨hmf, ?_⟩; obtain ⟨oj', hr', g1, g2⟩ := qjR _ hrr _ _ _ hmf; rw [hoj] at g1
     cases g1; have hsame := qdj ⟨hce, hca⟩ g2; subst hsame; refine ⟨_, g2, ?_⟩; intro b ob hg; rw [qar] at hg; split at hg
     · cases hg
     · rename_i hne; exact ⟨by rw [qat]; exact hdom2 b ob hg, hg, fun x hx e => hne ⟨x, hx, e⟩⟩
 · intro i oi t hi hoi hd; show (qaU fr0.nt tsR o v).get t = (qaU fr0.nt s.ts o v).get t
   rw [qaN, qaN]; by_cases hc : o.dst = some t /\ t < fr0.nt
   · rw [if_pos hc, if_pos hc]
   · rw [if_neg hc, if_neg hc]; rcases hi with hi | rfl
     · exact Q.tr1 i oi t hi hoi hd
     · rw [ho] at hoi
       cases hoi; have hge : fr0.nt <= t := Nat.le_of_not_lt (fun hlt => hc ⟨hd, hlt⟩); rw [H.tsw t hge]; exact Q.rel.wf.1 t hge
 · intro t ht; rw [qaN, if_neg (fun h => ht j o (.inr rfl) ho h.1)]; exact Q.tr0 t (fun i oi hi hoi => ht i oi (.inl hi) hoi)
 · intro x hx hnx hD; have hxm := ((hidm x).1 hx).1; rcases new1 x.2 hD with hd | hd
   · exact Q.dp x hxm (fun h => hnx (.inl h)) hd
   · have := (H.al x hxm).1; omega
 · intro i hi; rcases new1 i hi with h | h
   · exact .inl h
   · exact .inr (Nat.le_trans H.nx h)
end
end Go.Am
namespace Go.Am
open Go.RowKit
variable [Inhabited DrP]
theorem HOK.same {E : Env} {h h' : AH} {K : KS} {w : World} (H : HOK E h K w) (hg : ∀ i ob, h'.get i = some ob -> h.get i = some ob) (hn : h.next <= h'.next) : HOK E h' K w :=
 ⟨fun i o hi => H.obj i o (hg i o hi), fun i o hi => H.nk i o (hg i o hi), fun i j oi oj hi hj => H.inj i j oi oj (hg i oi hi) (hg j oj hj), fun i o hi => Nat.lt_of_lt_of_le (H.dom i o (hg i o hi)) hn, H.kb, fun i o hi => H.im i o (hg i o hi), H.k0⟩
section
variable {tab : Tab} {D : Nat -> Prop} {E : Env} {K : KS} {base : List Frame} {frC : Frame} {csC : List Frame} {w : World}
variable {ops : Array Oper} {fr0 : AFrame} {cs : List AFrame} {k : List AItem} {lo : Nat} {s s' : DS} {X : Nat -> Prop} {tsR : T AV} {hR : AH} {j : Nat} {l : List Nat} {o : Oper}
theorem RInv.look (H : DInv tab ops fr0.nt fr0.tmps lo s X) (Q : RInv ops fr0 cs k base s X D E K tsR hR l frC csC w)
   (ht : ∀ j o t, X j -> ops[j]? = some o -> o.dst = some t -> s'.ts.get t = s.ts.get t) (hn : s.h.next <= s'.h.next)
   (hg : ∀ i ob, (s'.h.get i = some ob /\ ∀ x ∈ s'.allocs, x.2 = i -> X x.1) ↔ (s.h.get i = some ob /\ ∀ x ∈ s.allocs, x.2 = i -> X x.1))
   (ha : ∀ x ∈ s'.allocs, x ∈ s.allocs \/ s.h.next <= x.2) : RInv ops fr0 cs k base s' X D E K tsR { hR with next := s'.h.next } l frC csC w := by
 have hget : ∀ i, ({ hR with next := s'.h.next } : AH).get i = hR.get i := fun _ => rfl
 refine ⟨⟨fun E' he => ?_, fun i hi => ?_, Q.rel.wf⟩, ?_, rfl, ?_, Q.tr0, ?_⟩
 · obtain ⟨g1, g2, g3⟩ := Q.rel.all E' he; exact ⟨g1.same (fun i ob h => h) (by simp only; rw [Q.hn]; exact hn), g2, g3⟩
 · have := Q.rel.dom i hi; simp only at this ⊢; rw [Q.hn] at this; omega
 · intro i ob; rw [hget, Q.hr i ob, hg i ob]
 · intro j o t hx ho hd; rw [Q.tr1 j o t hx ho hd, ht j o t hx ho hd]
 · intro x hx hnx hd; rcases ha x hx with h | h
   · exact Q.dp x h hnx hd
   · have := Q.rel.dom _ hd; simp only at this; rw [Q.hn] at this; omega
theorem qmc : ∀ (l : List Oper) (k : Nat), qjP k l = true -> ∀ j o, l[j]? = some o -> ∀ p ∈ qcz o, p < k + j := by
 intro l; induction l with
 | nil => intro k _ j o h; simp at h
 | cons x l ih =>
  intro k h j o hj p hp; simp only [qjP, Bool.and_eq_true, List.all_eq_true] at h
  cases j with
  | zero =>
   simp only [List.getElem?_cons_zero, Option.some.injEq] at hj; subst hj; have := h.1 p hp; simpa using this
  | succ j =>
   have := ih (k + 1) h.2 j o (by simpa using hj) p hp; omega
end
section
variable {tab : Tab} {D : Nat -> Prop} {E : Env} {K : KS} {base : List Frame} {frC : Frame} {csC : List Frame} {w : World}
variable {ops : Array Oper} {fr0 : AFrame} {cs : List AFrame} {k : List AItem} {lo : Nat} {X : Nat -> Prop} {tsR : T AV} {l : List Nat}
theorem qmN {s s' : DS} {i : Nat} {o : Oper} {hR : AH} (hf : qcs tab ops fr0.nt i o s = .ok (some s')) (hi : ops[i]? = some o) (hr : qa0 s.anc i o = true) (H : DInv tab ops fr0.nt fr0.tmps lo s X)
  (Q : RInv ops fr0 cs k base s X D E K tsR hR l frC csC w) : ∃ hR', RInv ops fr0 cs k base s' X D E K tsR hR' l frC csC w := by
 obtain ⟨hnone, _⟩ := qbH hr; have hxi : ¬ X i := fun h => by have := H.cx i h; rw [hnone] at this; cases this
 have hput : ∀ (v : AV) j oj t, X j -> ops[j]? = some oj -> oj.dst = some t -> (qaU fr0.nt s.ts o v).get t = s.ts.get t := by
  intro v j oj t hx ho hd; rw [qaN, if_neg]; rintro ⟨h, _⟩; have := H.uniq j i oj o t (H.cx j hx) ho hi hd h; exact hxi (this ▸ hx)
 have hsame : ∀ (v : AV) (s2 : DS), s2.ts = qaU fr0.nt s.ts o v -> s2.h = s.h -> s2.allocs = s.allocs -> ∃ hR', RInv ops fr0 cs k base s2 X D E K tsR hR' l frC csC w := by
  intro v s2 e1 e2 e3; refine ⟨_, Q.look H (s' := s2) ?_ (by rw [e2]; exact Nat.le_refl _) (fun i ob => by rw [e2, e3]) (fun x hx => .inl (by rw [<- e3]; exact hx))⟩; intro j oj t hx ho hd; rw [e1]; exact hput v j oj t hx ho hd
 unfold qcs at hf; obtain ⟨_, hck, hf1⟩ := zz0.1 hf; obtain ⟨b, hb, hf2⟩ := zz0.1 hf1; clear hf hf1
 cases b with
 | false =>
  simp only [Bool.not_false, if_true] at hf2
  cases hf2; exact hsame _ _ rfl rfl rfl
 | true =>
  simp only [Bool.not_true, Bool.false_eq_true, if_false] at hf2; split at hf2
  · cases hf2
  · obtain ⟨⟨u, h1⟩, hp, hf3⟩ := zz0.1 hf2; obtain ⟨_, hn, hf4⟩ := zz0.1 hf3; obtain ⟨ob, hob, hf5⟩ := zz0.1 hf4
    cases hf5; refine ⟨_, Q.look H (hput u) (by simp) ?_ ?_⟩
    · intro i' ob'; simp only; rw [AH.get_new]; by_cases e : i' = s.h.next
      · subst e; rw [if_pos rfl]; constructor
        · rintro ⟨_, h2⟩; exact absurd (h2 _ List.mem_cons_self rfl) hxi
        · rintro ⟨h1, _⟩; have := H.hd _ _ h1; omega
      · rw [if_neg e]; constructor
        · rintro ⟨h1, h2⟩; exact ⟨h1, fun x hx e' => h2 x (List.mem_cons_of_mem _ hx) e'⟩
        · rintro ⟨h1, h2⟩; refine ⟨h1, fun x hx e' => ?_⟩; rcases List.mem_cons.1 hx with rfl | hx
          · exact absurd e'.symm e
          · exact h2 x hx e'
    · intro x hx; rcases List.mem_cons.1 hx with rfl | hx
      · exact .inr (Nat.le_refl _)
      · exact .inl hx
  · split at hf2
    · rename_i u h1 hm'; obtain ⟨_, hn, hf3⟩ := zz0.1 hf2
      cases hf3; exact hsame _ _ rfl rfl rfl
    · split at hf2
      · rename_i u h1 hp
        cases hf2; exact hsame _ _ rfl rfl rfl
      · cases hf2
theorem qe8 : ∀ (l' : List Oper) (n : Nat) (s s' : DS) (hR : AH), (∀ j o, l'[j]? = some o -> ops[n + j]? = some o) -> qbp tab ops fr0.nt n l' s = .ok s' -> DInv tab ops fr0.nt fr0.tmps lo s X ->
  RInv ops fr0 cs k base s X D E K tsR hR l frC csC w -> ∃ hR', RInv ops fr0 cs k base s' X D E K tsR hR' l frC csC w := by
 intro l'; induction l' with
 | nil => intro n s s' hR _ h H Q; simp only [qbp] at h; cases h; exact ⟨hR, Q⟩
 | cons o l' ih =>
  intro n s s' hR hl h H Q; have hl' : ∀ j o', l'[j]? = some o' -> ops[n + 1 + j]? = some o' := by
    intro j o' hj; have := hl (j + 1) o' (by simpa using hj); rw [show n + 1 + j = n + (j + 1) from by omega]; exact this
  simp only [qbp] at h; by_cases hr : qa0 s.anc n o = true
  · simp only [hr, cond_true] at h; obtain ⟨x, hx, h1⟩ := zz0.1 h
    cases x with
    | none => exact ih (n + 1) s s' hR hl' h1 H Q
    | some s1 =>
     have hin : ops[n]? = some o := by simpa using hl 0 o rfl
     obtain ⟨hR1, Q1⟩ := qmN hx hin hr H Q; exact ih (n + 1) s1 s' hR1 hl' h1 (qfO hx hin hr H) Q1
  · have : qa0 s.anc n o = false := by simpa using hr
    simp only [this, cond_false] at h; exact ih (n + 1) s s' hR hl' h H Q
end
end Go.Am
namespace Go.Am
open Go.RowKit
variable [Inhabited DrP]
def Xof (listed : Array Bool) (j : Nat) : Prop := listed.getD j false = true
def unl (n : Nat) (listed : Array Bool) : Nat := ((List.range n).filter fun i => !listed.getD i false).length
theorem qkD {p q : Nat -> Bool} {i : Nat} : ∀ (l : List Nat), (∀ j, q j = true -> p j = true) -> i ∈ l -> p i = true -> q i = false -> (l.filter q).length + 1 <= (l.filter p).length := by
 intro l; induction l with
 | nil => intro _ h; cases h
 | cons x l ih =>
  intro hqp hi hp hq; rcases List.mem_cons.1 hi with rfl | hi
  · rw [List.filter_cons, List.filter_cons, if_pos hp, if_neg (by rw [hq]; simp), List.length_cons]; have : (l.filter q).length <= (l.filter p).length := by
      rw [<- List.countP_eq_length_filter, <- List.countP_eq_length_filter]; exact List.countP_mono_left (fun x _ => hqp x)
    omega
  · have := ih hqp hi hp hq; rw [List.filter_cons, List.filter_cons]; by_cases h1 : q x = true
    · rw [if_pos h1, if_pos (hqp x h1)]; simp only [List.length_cons]; omega
    · rw [if_neg h1]; by_cases h2 : p x = true
      · rw [if_pos h2]; simp only [List.length_cons]; omega
      · rw [if_neg h2]; exact this
theorem qh3 {listed : Array Bool} {i : Nat} (hi : i < listed.size) : Xof (listed.setIfInBounds i true) = fun j => Xof listed j \/ j = i := by
 funext j
 apply propext; unfold Xof; rw [Array.getD_eq_getD_getElem?, Array.getD_eq_getD_getElem?, Array.getElem?_setIfInBounds]; by_cases h : i = j
 · subst h; simp [hi]
 · have : ¬ j = i := fun e => h e.symm
   simp [h, this]
theorem qpd {n : Nat} {listed : Array Bool} {i : Nat} (hi : i < n) (hs : i < listed.size) (hx : ¬ Xof listed i) : unl n (listed.setIfInBounds i true) + 1 <= unl n listed := by
 refine qkD _ ?_ (List.mem_range.2 hi) (by unfold Xof at hx; simpa using hx) ?_
 · intro j hj; have h1 : ¬ Xof (listed.setIfInBounds i true) j := by unfold Xof; simpa using hj
   rw [qh3 hs] at h1; have : ¬ Xof listed j := fun h => h1 (.inl h)
   unfold Xof at this; simpa using this
 · have : Xof (listed.setIfInBounds i true) i := by rw [qh3 hs]; exact .inr rfl
   unfold Xof at this; simp [this]
theorem qmm {n : Nat} {listed : Array Bool} (h : unl n listed = 0) : ∀ j, j < n -> Xof listed j := by
 intro j hj; unfold unl at h; have := List.eq_nil_of_length_eq_zero h; rw [List.filter_eq_nil_iff] at this; have := this j (List.mem_range.2 hj); unfold Xof; simpa using this
end Go.Am
namespace Go.Am
open Go.RowKit
variable [Inhabited DrP]
section
variable {P : Program} {tab : Tab} (ok : TabOK P tab) {sub : FuncId -> List AV -> AH -> R (List (AV × AH))} (hsub : qeA P tab sub) (hext : qez P tab)
variable {K : KS} {base : List Frame}
variable {ops : Array Oper} {fr0 : AFrame} {cs : List AFrame} {k : List AItem} {lo : Nat}
def Fin (P : Program) (fr0 : AFrame) (cs : List AFrame) (k : List AItem) (base : List Frame) (K : KS) (lo : Nat) (sF : DS) (D : Nat -> Prop) (E : Env) (frC : Frame) (csC : List Frame) (w : World) : Prop :=
 ∃ frC' csC' w' D' E', Steps P (lone frC csC w) (lone frC' csC' w') /\ Rel D' E' K { fr := { fr0 with tmps := sF.ts, todo := k }, cs, h := sF.h } base frC' csC' w' /\ Agree D E E' /\ (∀ i, D i -> D' i) /\ Kept K w w' /\ (∀ i, D' i -> D i \/ lo <= i) /\ lo <= sF.h.next
def Todo (tab : Tab) (sub : FuncId -> List AV -> AH -> R (List (AV × AH))) (ops : Array Oper) (nt : Nat) (s sF : DS) : Prop :=
 (qc9 s.anc 0 ops.toList = [] /\ sF = s) \/ ∃ c o n s2, qc9 s.anc 0 ops.toList = [(c, o)] /\ qip tab sub ops nt c o s = .ok s2 /\ qdW tab sub ops nt n s2 = .ok sF
theorem qjD {nt n : Nat} {s sF : DS} (h : qdW tab sub ops nt n s = .ok sF) : ∃ s1, qbp tab ops nt 0 ops.toList s = .ok s1 /\ Todo tab sub ops nt s1 sF := by
 cases n with
 | zero => simp only [qdW] at h; cases h
 | succ n =>
  simp only [qdW] at h; obtain ⟨s1, h1, h2⟩ := zz0.1 h; refine ⟨s1, h1, ?_⟩; split at h2
  · rename_i hc; obtain ⟨_, _, h3⟩ := zz0.1 h2
    cases h3; exact .inl ⟨hc, rfl⟩
  · rename_i c o hc; obtain ⟨s2, h3, h4⟩ := zz0.1 h2; exact .inr ⟨c, o, n, s2, hc, h3, h4⟩
  · cases h2
include ok hsub hext in
theorem mid (hm : fr0.mode = .run) (hlt : qjP 0 ops.toList = true) : ∀ (fuel t : Nat) (listed : Array Bool) (s sF : DS) (D : Nat -> Prop) (E : Env) (tsR : T AV) (hR : AH) (frC : Frame) (csC : List Frame) (w : World),
  listed.size = ops.size -> unl ops.size listed <= fuel -> Todo tab sub ops fr0.nt s sF -> DInv tab ops fr0.nt fr0.tmps lo s (Xof listed) ->
  RInv ops fr0 cs k base s (Xof listed) D E K tsR hR (Region.linearise.go .any ops fuel t listed []) frC csC w -> Fin P fr0 cs k base K lo sF D E frC csC w := by
 have hend : ∀ (listed : Array Bool) (s sF : DS) (D : Nat -> Prop) (E : Env) (tsR : T AV) (hR : AH) (frC : Frame) (csC : List Frame) (w : World), (∀ j, j < ops.size -> Xof listed j) ->
    Todo tab sub ops fr0.nt s sF -> DInv tab ops fr0.nt fr0.tmps lo s (Xof listed) -> RInv ops fr0 cs k base s (Xof listed) D E K tsR hR [] frC csC w -> Fin P fr0 cs k base K lo sF D E frC csC w := by
  intro listed s sF D E tsR hR frC csC w hall htodo H Q; rcases htodo with ⟨_, rfl⟩ | ⟨c, o, n, s2, hc, _, _⟩
  · have hts : ∀ t, tsR.get t = sF.ts.get t := by
      intro t; by_cases hw : ∃ (j : Nat) (oj : Oper), ops[j]? = some oj /\ oj.dst = some t
      · obtain ⟨j, oj, h1, h2⟩ := hw; exact Q.tr1 j oj t (hall j (Array.getElem?_eq_some_iff.1 h1).1) h1 h2
      · rw [Q.tr0 t (fun j oj _ h1 h2 => hw ⟨j, oj, h1, h2⟩), H.tsC t (fun j oj _ h1 h2 => hw ⟨j, oj, h1, h2⟩)]
    have hst : ∀ E', Go.step P (lone (qak E' { fr0 with tmps := tsR, todo := .inRegion ops [] :: k }) csC w) = .next (lone (qak E' { fr0 with tmps := tsR, todo := k }) csC w) :=
      fun E' => step_lone_go (by simp [stepG, stepG.exec, qak, hm, qbl, qaV])
    have hconc : ∀ E', qak E' { fr0 with tmps := sF.ts, todo := k } = qak E' { fr0 with tmps := tsR, todo := k } := by
      intro E'; have : qaG E' sF.ts fr0.nt = qaG E' tsR fr0.nt := by
        unfold qaG qpb; simp only [hts]
      simp only [qak, this]
    have hfr := (Q.rel.all E (Agree.refl _ _)).2.1; simp only at hfr; refine ⟨qak E { fr0 with tmps := tsR, todo := k }, csC, w, D, E, .one (by rw [<- hfr]; exact hst E), ⟨fun E' he => ?_, fun i hi => ?_, ?_, Q.rel.wf.2⟩, Agree.refl _ _, fun _ h => h, Kept.refl K w, fun i hi => .inl hi, H.nx⟩
    · obtain ⟨g1, g2, g3⟩ := Q.rel.all E' he; refine ⟨g1.same (fun i ob h => (Q.hr i ob).2 ⟨h, fun x hx _ => ?_⟩) (by simp only; rw [Q.hn]; exact Nat.le_refl _), ?_, g3⟩
      · obtain ⟨o, ho⟩ := H.op _ (H.al x hx).2.1; exact hall _ (Array.getElem?_eq_some_iff.1 ho).1
      · simp only; rw [hconc E']; have h1 := hst E'; simp only at g2; rw [g2, <- hfr, hst E] at h1; exact (qdg (by simpa using h1)).1.symm
    · have := Q.rel.dom i hi; simp only at this ⊢; rw [Q.hn] at this; exact this
    · intro t ht; have := Q.rel.wf.1 t ht; simp only at this ⊢; rw [<- hts t]; exact this
  · have hcm : (c, o) ∈ qc9 s.anc 0 ops.toList := by rw [hc]; exact List.mem_cons_self
    obtain ⟨j', h1, h2, h3⟩ := qgu _ _ _ _ _ hcm; have hlt' : c < ops.size := by
      have := (List.getElem?_eq_some_iff.1 h2).1; simp at this; omega
    have := H.cx c (hall c hlt'); rw [(qbH h3).1] at this
    cases this
 intro fuel; induction fuel with
 | zero =>
  intro t listed s sF D E tsR hR frC csC w hsz hu htodo H Q; exact hend listed s sF D E tsR hR frC csC w (qmm (by omega)) htodo H (by simpa [Region.linearise.go] using Q)
 | succ fuel ih =>
  intro t listed s sF D E tsR hR frC csC w hsz hu htodo H Q; simp only [Region.linearise.go] at Q; change RInv ops fr0 cs k base s (Xof listed) D E K tsR hR (match (Region.ready .any ops listed)[t % (Region.ready .any ops listed).length]? with
    | some i => Region.linearise.go .any ops fuel (t / (Region.ready .any ops listed).length) (listed.setIfInBounds i true) [i]
    | none => [].reverse) frC csC w at Q
  have hget : ∀ j, j < ops.size -> (listed.getD j true = false ↔ ¬ Xof listed j) := by
    intro j hj; unfold Xof; have : j < listed.size := by omega
    simp [Array.getD, this]
  cases hi : (Region.ready .any ops listed)[t % (Region.ready .any ops listed).length]? with
  | none =>
    rw [hi] at Q; have hnil : Region.ready .any ops listed = [] := by
      cases hr : Region.ready .any ops listed with
      | nil => rfl
      | cons x xs =>
        rw [hr] at hi; have hlt : t % (x :: xs).length < (x :: xs).length := Nat.mod_lt _ (by simp); rw [List.getElem?_eq_none_iff] at hi; omega
    have hall : ∀ j, j < ops.size -> Xof listed j := by
      intro j; induction j using Nat.strongRecOn with
      | _ j ihj =>
        intro hj; by_cases hx : Xof listed j
        · exact hx
        · exfalso; have hm' : j ∈ Region.ready .any ops listed := by
           rw [mem_ready]; refine ⟨(hget j hj).2 hx, ops[j], Array.getElem?_eq_getElem hj, ?_⟩; intro e he hb; have hp : e.on ∈ qcz ops[j] := List.mem_map.2 ⟨e, List.mem_filter.2 ⟨by simpa using he, hb⟩, rfl⟩; have hlt' := qmc ops.toList 0 hlt j ops[j] (by simp [hj]) e.on hp; exact ihj e.on (by omega) (by omega)
          rw [hnil] at hm'
          cases hm'
    exact hend listed s sF D E tsR hR frC csC w hall htodo H Q
  | some i =>
    rw [hi] at Q; simp only at Q; rw [linearise_go_acc, List.reverse_singleton, List.singleton_append] at Q; obtain ⟨hl1, o, ho, hdeps⟩ := mem_ready.1 (List.mem_of_getElem? hi); have hin : i < ops.size := (Array.getElem?_eq_some_iff.1 ho).1; have hx := (hget i hin).1 hl1; have hready : ∀ p ∈ qcz o, Xof listed p := by
      intro p hp; obtain ⟨e, he, rfl⟩ := List.mem_map.1 hp; obtain ⟨he1, he2⟩ := List.mem_filter.1 he; exact hdeps e (by simpa using he1) he2
    have hsz' : (listed.setIfInBounds i true).size = ops.size := by simp [hsz]
    have hu' : unl ops.size (listed.setIfInBounds i true) <= fuel := by
      have := qpd hin (by omega) hx; omega
    have hX' : Xof (listed.setIfInBounds i true) = fun j => Xof listed j \/ j = i := qh3 (by omega)
    have hfin : ∀ (s' : DS), Todo tab sub ops fr0.nt s' sF -> DInv tab ops fr0.nt fr0.tmps lo s' (fun j => Xof listed j \/ j = i) ->
        qhu P ops fr0 cs k base s' (fun j => Xof listed j \/ j = i) D E K lo (Region.linearise.go .any ops fuel (t / (Region.ready .any ops listed).length) (listed.setIfInBounds i true) []) frC csC w -> Fin P fr0 cs k base K lo sF D E frC csC w := by
      intro s' htd H' hc; obtain ⟨tsR', hR', frC', csC', w', D', E', c1, c2, c3, c4, c5, c6⟩ := hc; obtain ⟨frF, csF, wF, DF, EF, f1, f2, f3, f4, f5, f6, f7⟩ := ih _ (listed.setIfInBounds i true) s' sF D' E' tsR' hR' frC' csC' w' hsz' hu' htd (by rw [hX']; exact H') (by rw [hX']; exact c2); exact ⟨frF, csF, wF, DF, EF, c1.trans f1, f2, c3.trans f3 c4, fun x hx => f4 x (c4 x hx), c5.trans f5, fun x hx => (f6 x hx).elim (c6 x) .inr, f7⟩
    by_cases hC : (s.anc.get i).isSome = true
    · exact hfin s htodo (H.come hC ho hready) (qjl ok H Q hm ho hC hx hready)
    · have hr : qa0 s.anc i o = true := by
        unfold qa0; simp only [Bool.and_eq_true, List.all_eq_true]; exact ⟨by simpa using hC, fun p hp => H.cx p (hready p hp)⟩
      have hcm : (i, o) ∈ qc9 s.anc 0 ops.toList := by
        have := qlp ops.toList 0 s.anc i o (by simpa using ho) (by simpa using hr); simpa using this
      rcases htodo with ⟨hc, _⟩ | ⟨c, o', n, s2, hc, hd, hloop⟩
      · rw [hc] at hcm; cases hcm
      · rw [hc] at hcm; rcases List.mem_cons.1 hcm with e | hcm
        · cases e; obtain ⟨H2, tsR', hR', frC', csC', w', D', E', c1, c2, c3, c4, c5, c6⟩ := qqb ok hsub hext H Q hm ho hr hd hready; obtain ⟨s3, hpass, htd3⟩ := qjD hloop; have hpl : ∀ j o, ops.toList[j]? = some o -> ops[0 + j]? = some o := by
           intro j o hj; simpa using hj
          obtain ⟨hR3, Q3⟩ := qe8 ops.toList 0 s2 s3 hR' hpl hpass H2 c2; exact hfin s3 htd3 (qdc ops.toList 0 s2 s3 hpl hpass H2) ⟨tsR', hR3, frC', csC', w', D', E', c1, Q3, c3, c4, c5, c6⟩
        · cases hcm
end
end Go.Am
namespace Go.Am
open Go.RowKit
variable [Inhabited DrP]
section
variable {P : Program} {tab : Tab} (ok : TabOK P tab) {sub : FuncId -> List AV -> AH -> R (List (AV × AH))} (hsub : qeA P tab sub) (hext : qez P tab)
theorem qdQ (n j : Nat) : ¬ Xof (Array.replicate n false) j := by
 unfold Xof; rw [Array.getD_eq_getD_getElem?, Array.getElem?_replicate]; split <;> simp
include ok hsub hext in
theorem qfr (hmix : P.follows .mixedOrders = true) : qnm P tab sub := by
 intro fr cs h id ops k ts h' hm ht hd D E K base frC csC w hR; unfold draw at hd; obtain ⟨_, hlt, hd1⟩ := zz0.1 hd; obtain ⟨sF, hloop, hd2⟩ := zz0.1 hd1
 cases hd2; have hlt := zz3.1 hlt; let s0 : DS := { ts := fr.tmps, h, anc := .e, reads := [], allocs := [] }
 let ord := w.tape w.drawn (.order frC.fn id)
 let l := Region.linearise.go .any ops ops.size ord (Array.replicate ops.size false) []
 have hstep : ∀ E', Agree D E E' -> Go.step P (lone frC csC w) = .next (lone (qak E' { fr with tmps := fr.tmps, todo := .inRegion ops l :: k }) csC w.drew) := by
  intro E' he; have e1 := (hR.all E' he).2.1; simp only at e1; refine step_lone_go ?_; have hmC : frC.mode = .run := by rw [<- e1]; simp [qak, hm, qbl]
  have htC : frC.todo = .code (.region id ops true) :: k.map (qaV E') := by rw [<- e1]; simp [qak, ht, qaV]
  have hrun : (choose (.order frC.fn id)).run P w = .ok ord w.drew := by
    simp only [choose, Sem.run, Question.forced, Bool.false_eq_true, if_false, Question.cut]; rfl
  have hsch : Region.schedule (P.follows .mixedOrders) ops ord = l := by
    simp only [Region.schedule, hmix, Bool.true_or, if_true]; rfl
  have hgoal : qak E' { fr with tmps := fr.tmps, todo := .inRegion ops l :: k } = { frC with todo := .inRegion ops l :: k.map (qaV E') } := by
    rw [<- e1]; rfl
  rw [hgoal]; unfold stepG stepG.exec; simp only [hmC, htC, Bool.not_true, Bool.false_eq_true, if_false, hrun, hsch, GStep.bare_go]
 have hdom := (hR.all E (Agree.refl _ _)).1.dom; have H0 : DInv tab ops fr.nt fr.tmps h.next s0 (Xof (Array.replicate ops.size false)) := by
  have hnone : ∀ j, s0.anc.get j = none := fun _ => rfl
  refine ⟨fun j hj => absurd hj (qdQ _ _), fun j a hj => absurd hj (qdQ _ _), ?_, ?_, ?_, fun _ _ => rfl, ?_, fun x hx => (by cases hx), Nat.le_refl _, hR.wf.1, fun x hx => (by cases hx), hdom⟩
  · intro j hj; rw [hnone] at hj; cases hj
  · intro j a o hj; rw [hnone] at hj; cases hj
  · intro i j oi oj d hi; rw [hnone] at hi; cases hi
  · intro j hj; rw [hnone] at hj; cases hj
 have Q0 : RInv ops fr cs k base s0 (Xof (Array.replicate ops.size false)) D E K fr.tmps h l (qak E { fr with tmps := fr.tmps, todo := .inRegion ops l :: k }) csC w.drew := by
  refine ⟨⟨fun E' he => ?_, hR.dom, hR.wf⟩, fun i ob => ⟨fun h => ⟨h, fun x hx => (by cases hx)⟩, fun h => h.1⟩, rfl, fun j o t hx => absurd hx (qdQ _ _), fun _ _ => rfl, fun x hx => by cases hx⟩; obtain ⟨g1, g2, g3⟩ := hR.all E' he; refine ⟨g1.drew, ?_, g3⟩; have h1 := hstep E' he; rw [hstep E (Agree.refl _ _)] at h1; exact (qdg (by simpa using h1)).1.symm
 obtain ⟨s1, hpass, htodo⟩ := qjD hloop; have hpl : ∀ j o, ops.toList[j]? = some o -> ops[0 + j]? = some o := by
  intro j o hj; simpa using hj
 obtain ⟨hR1, Q1⟩ := qe8 ops.toList 0 s0 s1 h hpl hpass H0 Q0; have H1 := qdc ops.toList 0 s0 s1 hpl hpass H0; obtain ⟨frC', csC', w', D', E', f1, f2, f3, f4, f5, f6, f7⟩ := mid ok hsub hext hm hlt ops.size ord (Array.replicate ops.size false) s1 sF D E fr.tmps hR1 _ csC w.drew (by simp)
  (by unfold unl; have := List.length_filter_le (fun i => !(Array.replicate ops.size false).getD i false) (List.range ops.size); simpa using this) htodo H1 Q1
 exact ⟨frC', csC', w', E', D', Steps.head (hstep E (Agree.refl _ _)) f1, f2, f3, f4, (Kept.drew K w).trans f5, f7, f6⟩
end
end Go.Am
namespace Go.Am
open Go.RowKit
variable [Inhabited DrP]
def qis (tag : Nat) (fn : Func) : Array Value -> Sem Value :=
 match tag with
 | 1 => Extern.BytealgCompare.compare
 | 2 => Extern.AbiNoEscape.same
 | 3 => Extern.BytealgMakeNoZero.makeNoZero fn.params fn.resultTypes
 | 5 => Extern.BytealgIndexByte.indexByte
 | _ => Extern.SlicesOverlaps.overlaps fn.params fn.resultTypes
def ExtTab (P : Program) (tab : Tab) : Prop := ∀ f tag fn, tab.ext.get f = some tag -> tab.fns.get f = some fn -> Extern.findNext fn = none /\ Extern.find fn = some (qis tag fn)
theorem qsA (ps rs : Array TypeId) (n : Int) : Extern.BytealgMakeNoZero.makeNoZero ps rs #[.int .i64 n] = (do
 let some t := rs[0]? | stuck "bytealg.MakeNoZero: no result type"
 let .slice elem <- underlying t | stuck "bytealg.MakeNoZero: slice type expected"
 if n < 0 || n > 2 ^ 48 then runtimePanic (.error "makeslice: len out of range")
 let cap <- choose (.appendCap n.toNat 0 elem)
 askRoom cap
 let bytes <- choose (.extern "internal/bytealg.MakeNoZero.bytes" 0)
 let a <- Go.newRow elem (Extern.BytealgMakeNoZero.digits cap bytes #[])
 pure (.slice (some a) n.toNat cap)) := rfl
theorem qrE (ps rs : Array TypeId) (a b : Option Addr) (la lb ca cb : Nat) : Extern.SlicesOverlaps.overlaps ps rs #[.slice a la ca, .slice b lb cb] = (do
 let some t := ps[0]? | stuck "slices.overlaps: no parameter types"
 let .slice elem <- underlying t | stuck "slices.overlaps: slice type expected"
 let size <- sizeOf elem
 match a, b with
 | some a, some b =>
  if la = 0 \/ lb = 0 \/ size = 0 then pure (.bool false)
  else if a.block != b.block && (<- Go.frozen a) && (<- Go.frozen b) then unsupported .addressObserved
  else do
   if a.block != b.block then do
    noView a; noView b
    if <- mayBeOne a b then return .bool ((<- choose (.extern "sameAddr.stringBytes" 2)) == 1)
   pure (.bool (a.block == b.block && a.off < b.off + lb * size && b.off < a.off + la * size))
 | _, _ => pure (.bool false)) := rfl
theorem quf (b c : Value) : Extern.BytealgIndexByte.indexByte #[b, c] = (do
 let b <- Extern.Bytes.bytesOf b
 let c <- Extern.Bytes.asByte c
 match (List.range b.size).find? fun i => b[i]! == c with
 | some i => pure (Go.goInt i)
 | none => pure (Go.goInt (-1))) := rfl
theorem qku : ∀ (n t : Nat) (acc : Array Value), (Extern.BytealgMakeNoZero.digits n t acc).size = acc.size + n := by
 intro n; induction n with
 | zero => intro t acc; rfl
 | succ n ih => intro t acc; simp only [Extern.BytealgMakeNoZero.digits, ih, Array.size_push]; omega
section
variable {P : Program} {tab : Tab} (ok : TabOK P tab) (het : ExtTab P tab)
include ok het
theorem qud : qez P tab := by
 intro f fn args h v h' hfn hb hx w; have hP := ok.fns f fn hfn; unfold qf7 at hx; split at hx
 · rename_i tag htag; obtain ⟨hn, he⟩ := het f tag fn htag hfn; have hrun : ∀ a (w : World), (callFunc f a).run P w = ((qis tag fn a).run P w).andThen fun v w' => .ok (.value v) w' := fun a w => run_callFunc_extern hP (ok.nng f fn hfn) (by rw [hb]; rfl) hn he a w
   unfold extern at hx; split at hx
   · cases hx; refine ⟨(0, 0), fun E K H _ => ⟨by omega, w, ?_, H, Kept.refl K w⟩⟩; rw [hrun]; rfl
   · cases hx; refine ⟨(0, 0), fun E K H _ => ⟨by omega, w, ?_, H, Kept.refl K w⟩⟩; rw [hrun]; rfl
   ·
     rename_i n; obtain ⟨t, ht, hx1⟩ := zz0.1 hx; obtain ⟨d, hd, hx2⟩ := zz0.1 hx1; have hPt := ok.und t d (zz4.1 hd); have ht := zz4.1 ht; split at hx2
     · rename_i e; obtain ⟨z, hz, hx2'⟩ := zz0.1 hx2; obtain ⟨_, hle, hx3⟩ := zz0.1 hx2'; obtain ⟨⟨h1, b⟩, hrow, hx4⟩ := zz0.1 hx3
       cases hx4; have hle := zz3.1 hle; simp only [Bool.and_eq_true] at hle; have hz1 := Nat.eq_of_beq_eq_true hle.2; have hle := Nat.le_of_ble_eq_true hle.1; subst hz1; obtain ⟨sz, hsz, rfl, rfl⟩ := qaC hrow; rw [hz] at hsz
       cases hsz; refine ⟨(w.heap.size, grownCap w n 0 e), fun E K H hE => ?_⟩; obtain ⟨hE1, hE2⟩ := hE (by simp); simp only at hE1 hE2; refine ⟨by simp, w.drew.drew.alloc (.cells (Extern.BytealgMakeNoZero.digits (grownCap w n 0 e) ((Question.extern "internal/bytealg.MakeNoZero.bytes" 0).cut (w.drew.tape w.drew.drawn (.extern "internal/bytealg.MakeNoZero.bytes" 0))) #[]) e), ?_, ?_, ?_⟩
       · rw [hrun]; have h1 : ¬ ((n : Int) < 0) := by omega
         have h2 : ¬ ((n : Int) > 2 ^ 48) := by
           have : (2 : Int) ^ 48 = 281474976710656 := by decide
           rw [this]; omega
         have hq : (Question.appendCap n 0 e).cut (w.tape w.drawn (.appendCap n 0 e)) = grownCap w n 0 e := rfl; have hor : ((decide ((n : Int) < 0)) || (decide ((n : Int) > 2 ^ 48))) = false := by rw [decide_eq_false h1, decide_eq_false h2]; rfl
         show (((Extern.BytealgMakeNoZero.makeNoZero fn.params fn.resultTypes #[.int .i64 (n : Int)]).run P w).andThen fun v w' => .ok (Next.value v) w') = _
         rw [qsA]; simp only [ht, Sem.run_bind, underlying, run_program, Result.andThen_ok, hPt, Sem.run_pure, hor, Bool.false_eq_true, if_false, run_choose, Question.forced, Int.toNat_natCast, hq, World.drew_eq, run_askRoom, qbX]; simp [conc, Cap.val, hE1, hE2]
       · exact H.drew.drew.new (by simpa using hE1) ⟨_, _, rfl, ⟨_, rfl⟩, by simp [qku, hE2], rfl⟩
       · exact ((Kept.drew K w).trans (Kept.drew K w.drew)).trans (Kept.alloc (by simpa using H.kb) _)
     · cases hx2
   ·
     rename_i x y; obtain ⟨t, ht, hx1⟩ := zz0.1 hx; obtain ⟨d, hd, hx2⟩ := zz0.1 hx1; have hPt := ok.und t d (zz4.1 hd); have ht := zz4.1 ht; split at hx2
     · rename_i e; obtain ⟨sz, hsz, hx3⟩ := zz0.1 hx2; obtain ⟨_, hck, hx4⟩ := zz0.1 hx3; clear hx hx1 hx2 hx3; have hs0 : sz ≠ 0 := by
         intro e; subst e; simp [R.check] at hck
       have hnone : ∀ (E : Env) (a b : Option Addr) (la lb ca cb : Nat), (a = none \/ b = none) -> ((qis 4 fn #[.slice a la ca, .slice b lb cb]).run P w) = .ok (.bool false) w := by
         intro E a b la lb ca cb hab; show (Extern.SlicesOverlaps.overlaps fn.params fn.resultTypes #[.slice a la ca, .slice b lb cb]).run P w = _
         rw [qrE]; simp only [ht, Sem.run_bind, underlying, run_program, Result.andThen_ok, hPt, Sem.run_pure, qbD ok hsz]; rcases hab with rfl | rfl
         · rfl
         · cases a <;> rfl
       split at hx4
       · cases hx4; refine ⟨(0, 0), fun E K H _ => ⟨by omega, w, ?_, H, Kept.refl K w⟩⟩; rw [hrun]; simp only [concL_cons, concL_nil, conc]; rw [hnone E _ _ _ _ _ _ (.inl rfl)]; rfl
       · cases hx4; refine ⟨(0, 0), fun E K H _ => ⟨by omega, w, ?_, H, Kept.refl K w⟩⟩; rw [hrun]; simp only [concL_cons, concL_nil, conc]; rw [hnone E _ _ _ _ _ _ (.inl rfl)]; rfl
       · cases hx4; refine ⟨(0, 0), fun E K H _ => ⟨by omega, w, ?_, H, Kept.refl K w⟩⟩; rw [hrun]; simp only [concL_cons, concL_nil, conc]; rw [hnone E _ _ _ _ _ _ (.inr rfl)]; rfl
       · rename_i a i n ca b j m cb; split at hx4
         · rename_i ha hb'; have hsame : h' = h := by
            cases hc : (Nat.beq n 0 || Nat.beq m 0) <;> rw [hc] at hx4 <;> cases hx4 <;> rfl
           subst hsame; refine ⟨(0, 0), fun E K H _ => ⟨by omega, w, ?_, H, Kept.refl K w⟩⟩; rw [hrun]; simp only [concL_cons, concL_nil, conc]; have hgo : ((qis 4 fn #[.slice (some ⟨E.blk a, i, none⟩) n (ca.val (E.cap a)), .slice (some ⟨E.blk b, j, none⟩) m (cb.val (E.cap b))]).run P w) = .ok (conc E v) w := by
            show (Extern.SlicesOverlaps.overlaps fn.params fn.resultTypes #[.slice (some ⟨E.blk a, i, none⟩) n (ca.val (E.cap a)), .slice (some ⟨E.blk b, j, none⟩) m (cb.val (E.cap b))]).run P w = _
            rw [qrE]; simp only [ht, Sem.run_bind, underlying, run_program, Result.andThen_ok, hPt, Sem.run_pure, qbD ok hsz]; by_cases hz : n = 0 \/ m = 0
            · rw [if_pos (by rcases hz with h | h <;> simp [h])]; have : (Nat.beq n 0 || Nat.beq m 0) = true := by
                rcases hz with rfl | rfl <;> simp
              rw [this] at hx4
              cases hx4; rfl
            · rw [if_neg (by omega)]; have h1 : Nat.beq n 0 = false := by
                cases hb : Nat.beq n 0
                · rfl
                · exact absurd (.inl (Nat.eq_of_beq_eq_true hb)) hz
              have h2 : Nat.beq m 0 = false := by
                cases hb : Nat.beq m 0
                · rfl
                · exact absurd (.inr (Nat.eq_of_beq_eq_true hb)) hz
              rw [h1, h2] at hx4
              cases hx4; have hfa := qfb H ha i; have hfb := qfb H hb' j; have hfrz : (Go.frozen ⟨E.blk a, i, none⟩).run P w = .ok false w := by simp [Go.frozen, Sem.run, hfa]
              by_cases hab : a = b
              · subst hab; simp [conc]; congr 1 <;> (rw [Bool.eq_iff_iff]; simp)
              · have hne : E.blk a ≠ E.blk b := fun e => hab (H.inj a b _ _ ha hb' (by simp [AO.ro]) e)
                have hb0 : Nat.beq a b = false := by
                  cases hb : Nat.beq a b
                  · rfl
                  · exact absurd (Nat.eq_of_beq_eq_true hb) hab
                simp [conc, hne, hb0, hfrz, qd1 H ha, qd1 H hb', qfR H ha hb']
           rw [hgo]; rfl
         · cases hx4
       · cases hx4
     · cases hx2
   ·
     rename_i a c
     cases hx; refine ⟨(0, 0), fun E K H _ => ⟨by omega, w, ?_, H, Kept.refl K w⟩⟩; rw [hrun]; have hgo : (qis 5 fn #[.string ⟨a.toArray⟩, .int .u8 c]).run P w = .ok (.int .i64 (qoo ⟨a.toArray⟩ c.toNat.toUInt8)) w := by
       show (Extern.BytealgIndexByte.indexByte #[.string ⟨a.toArray⟩, .int .u8 c]).run P w = _
       rw [quf]; unfold qoo; simp only [Extern.Bytes.bytesOf, Extern.Bytes.asByte, Sem.run_bind, Sem.run_pure, Result.andThen_ok]; generalize List.find? (fun i => (ByteArray.mk a.toArray)[i]! == c.toNat.toUInt8) (List.range (ByteArray.mk a.toArray).size) = r
       cases r <;> rfl
     simp only [concL_cons, concL_nil, conc]; rw [hgo]; rfl
   · cases hx
 · cases hx
end
end Go.Am
namespace Go.Am
open Go.RowKit
def T.reval {α : Type} : (Nat -> Option α) -> T α -> T α
 | _, .e => .e
 | f, .n v l r => .n (match v with | none => none | some _ => f 0) (T.reval (fun k => f (2 * k + 1)) l) (T.reval (fun k => f (2 * k + 2)) r)
def T.all {α : Type} (p : α -> Bool) : T α -> Bool
 | .e => true
 | .n v l r => (match v with | none => true | some a => p a) && T.all p l && T.all p r
theorem zz19 {α : Type} : ∀ (t : T α) (f : Nat -> Option α), T.reval f t = t -> ∀ k v, t.get k = some v -> f k = some v := by
 intro t; induction t with
 | e => intro f _ k v h; simp [zz66] at h
 | n x l r ihl ihr =>
  intro f h k v hk; simp only [T.reval, T.n.injEq] at h; obtain ⟨h1, h2, h3⟩ := h; rw [zz85] at hk; split at hk
  · rename_i h0; subst h0; subst hk; exact h1
  · split at hk
    · have := ihl _ h2 _ _ hk; rw [show 2 * (k / 2) + 1 = k from by omega] at this; exact this
    · have := ihr _ h3 _ _ hk; rw [show 2 * (k / 2 - 1) + 2 = k from by omega] at this; exact this
theorem qxi {α : Type} {p : α -> Bool} : ∀ (t : T α), T.all p t = true -> ∀ k v, t.get k = some v -> p v = true := by
 intro t; induction t with
 | e => intro _ k v h; simp [zz66] at h
 | n x l r ihl ihr =>
  intro h k v hk; simp only [T.all, Bool.and_eq_true] at h; obtain ⟨⟨h1, h2⟩, h3⟩ := h; rw [zz85] at hk; split at hk
  · subst hk; exact h1
  · split at hk
    · exact ihl h2 _ _ hk
    · exact ihr h3 _ _ hk
theorem TabOK.of {P : Program} {tab : Tab} (h1 : tab.und.reval P.underlying = tab.und) (h2 : tab.siz.reval (fun t => (P.info? t).map (·.size)) = tab.siz) (h3 : tab.byt.reval (fun t => (P.info? t).map (·.bytes)) = tab.byt)
   (h4 : tab.zer.reval (fun t => ((P.info? t).bind (·.zero)).map qep) = tab.zer) (h5 : tab.agg.reval (fun t => (P.underlying t).map qrU) = tab.agg) (h6 : tab.held.reval (fun t => some (P.stoodInHeld t)) = tab.held)
   (h7 : tab.grd.reval (fun t => some (P.eqGuardType P.depth t)) = tab.grd) (h8 : tab.fns.reval (fun f => P.funcs[f]?) = tab.fns) (h9 : tab.fns.all (fun fn => !(fn.name == "runtime.NumGoroutine")) = true) : TabOK P tab := by
 refine ⟨zz19 _ _ h1, ?_, ?_, ?_, ?_, ?_, ?_, zz19 _ _ h8, ?_⟩
 · intro t n h; have := zz19 _ _ h2 t n h; simpa [Option.map_eq_some_iff] using this
 · intro t n h; have := zz19 _ _ h3 t n h; simpa [Option.map_eq_some_iff] using this
 · intro t z h; have := zz19 _ _ h4 t z h; simp only [Option.map_eq_some_iff, Option.bind_eq_some_iff] at this; obtain ⟨v, ⟨i, hi, hv⟩, rfl⟩ := this; exact ⟨i, hi, fun E => by rw [qfM]; exact hv⟩
 · intro t b h; have := zz19 _ _ h5 t b h; simpa [Option.map_eq_some_iff] using this
 · intro t b h; have := zz19 _ _ h6 t b h; simpa using this
 · intro t b h; have := zz19 _ _ h7 t b h; simpa using this
 · intro f fn h; have := qxi _ h9 f fn h; simpa using this
theorem ExtTab.of {P : Program} {tab : Tab} (l : List (Nat × Nat)) (hl : ∀ f tag, tab.ext.get f = some tag -> (f, tag) ∈ l) (hf : ∀ x ∈ l, ∀ fn, tab.fns.get x.1 = some fn -> Extern.findNext fn = none /\ Extern.find fn = some (qis x.2 fn)) : ExtTab P tab :=
 fun f tag fn h1 h2 => hf (f, tag) (hl f tag h1) fn h2
end Go.Am
namespace Go.Am
open Go.RowKit
def emptyH : AH := { t := .e, next := 0 }
theorem qlK (E : Env) (K : KS) (w : World) (hK : ∀ b, K b -> b < w.heap.size) (hk0 : ∀ b, b < K.b -> K b) : HOK E emptyH K w := by
 have h0 : ∀ i, emptyH.get i = none := fun i => rfl
 refine ⟨fun i o h => ?_, fun i o h => ?_, fun i j oi oj h => ?_, fun i o h => ?_, hK, fun i o h => ?_, hk0⟩ <;> (rw [h0] at h; cases h)
def qmJ : List (Nat × Nat) -> T Nat
 | [] => .e
 | (f, t) :: l => (qmJ l).set f (some t)
theorem qnY : ∀ (l : List (Nat × Nat)) (f tag : Nat), (qmJ l).get f = some tag -> (f, tag) ∈ l := by
 intro l; induction l with
 | nil => intro f tag h; simp [qmJ, zz66] at h
 | cons x l ih =>
  intro f tag h; obtain ⟨a, b⟩ := x; simp only [qmJ, T.get_set] at h; split at h
  · rename_i e; subst e
    cases h; exact List.mem_cons_self
  · exact List.mem_cons_of_mem _ (ih f tag h)
theorem qwt {P : Program} {tab : Tab} (l : List (Nat × Nat)) (hl : tab.ext = qmJ l) (hf : ∀ x ∈ l, ∃ fn, tab.fns.get x.1 = some fn /\ Extern.findNext fn = none /\ Extern.find fn = some (qis x.2 fn)) : ExtTab P tab :=
 ExtTab.of l (fun f tag h => qnY l f tag (by rw [<- hl]; exact h)) (fun x hx fn h => by
  obtain ⟨fn', h1, h2⟩ := hf x hx; rw [h1] at h
  cases h; exact h2)
end Go.Am
namespace Go.Sy
open Go.Am
universe u v
inductive SV : Type 1 where
 | bool (b : Bool)
 | int (k : IntKind) (n : Int)
 | str (s : List UInt8)
 | nilp
 | wp (a : Addr)
 | ptr (b off : Nat)
 | eptr (b i off : Nat)
 | rptr (cs : List SV) (off : Nat)
 | nils
 | sl (b off len cap : Nat)
 | own (b : Nat)
 | lst (X : Type) (L : List X) (enc : X -> List SV)
 | nilm
 | map (b : Nat)
 | nilf
 | fn (f : FuncId) (first captured : List SV)
 | agg (cs : List SV)
 | tup (vs : List SV)
 | any
inductive SO : Type 1 where
 | cells (cs : List SV) (elem : TypeId)
 | arr (X : Type) (L : List X) (enc : X -> List SV) (elem : TypeId)
def so {α : Type u} (x : Option α) (k : α -> Prop) : Prop := match x with | some a => k a | none => False
def br (b : Bool) (p q : Prop) : Prop := match b with | true => p | false => q
def ck (b : Bool) (p : Prop) : Prop := match b with | true => p | false => False
def look {α : Type u} : List (Nat × α) -> Nat -> Option α
 | [], _ => none
 | (k, v) :: l, n => bif Nat.beq k n then some v else look l n
abbrev Fr := List (Nat × SV)
structure SH : Type 1 where
 next : Nat
 os : List (Nat × Option SO)
def SH.get (h : SH) (b : Nat) : Option SO := match look h.os b with | some (some o) => some o | _ => none
def SH.set : SH -> Nat -> Option SO -> SH
 | ⟨n, os⟩, b, o => ⟨n, (b, o) :: os⟩
def SH.new : SH -> SO -> SH
 | ⟨n, os⟩, o => ⟨n + 1, (n, some o) :: os⟩
def Fr.of : List SV -> Nat -> Fr
 | [], _ => []
 | v :: l, n => (n, v) :: Fr.of l (n + 1)
def qgZ : Value -> Option SV
 | .bool b => some (.bool b)
 | .int k n => some (.int k n)
 | .string s => some (.str s.data.toList)
 | .pointer none => some .nilp
 | .slice none 0 0 => some .nils
 | .map none => some .nilm
 | .nilFunc => some .nilf
 | _ => none
def mapO {α : Type u} {β : Type v} (f : α -> Option β) : List α -> Option (List β)
 | [] => some []
 | x :: l => match f x, mapO f l with | some y, some m => some (y :: m) | _, _ => none
def qiG : Value -> Option SV
 | .agg cs => (mapO qgZ cs.toList).map .agg
 | .tuple vs => (mapO qgZ vs.toList).map .tup
 | v => qgZ v
def ofAV : AV -> Option SV
 | .bool b => some (.bool b)
 | .int k n => some (.int k n)
 | .str s => some (.str s)
 | .nilp => some .nilp
 | .nils => some .nils
 | .nilm => some .nilm
 | .nilf => some .nilf
 | _ => none
def qqD : AV -> Option (List SV)
 | .agg cs => mapO ofAV cs
 | v => (ofAV v).map fun x => [x]
def sev (ts : Fr) : Operand -> Option SV
 | .tmp t => look ts t
 | .const v => qiG v
 | .func f => some (.fn f [] [])
 | .global _ => none
def sevs (ts : Fr) (l : List Operand) : Option (List SV) := mapO (sev ts) l
def SV.cells : SV -> List SV
 | .agg cs => cs
 | v => [v]
def qdI : SV -> Bool
 | .bool _ | .int _ _ | .str _ | .nilp | .wp _ | .nils | .nilm | .nilf | .lst _ _ _ => true
 | _ => false
def SV.known : SV -> Bool
 | .any => false
 | _ => true
def qga : SV -> Bool
 | .agg _ | .tup _ | .any => false
 | _ => true
section
variable (tab : Tab)
def qg1 (t : TypeId) (cs : List SV) (off : Nat) : Option SV :=
 match tab.agg.get t with
 | some true => match tab.siz.get t with
  | some n => bif Nat.ble (off + n) cs.length then some (.agg ((cs.drop off).take n)) else none
  | none => none
 | some false => cs[off]?
 | none => none
def qe4 (cs : List SV) (off : Nat) (vs : List SV) : List SV := cs.take off ++ (vs ++ cs.drop (off + vs.length))
def qqs (h : SH) (t : TypeId) (p : SV) (k : SV -> Prop) : Prop :=
 match p with
 | .ptr b off => match h.get b with
  | some (.cells cs _) => so (qg1 tab t cs off) k
  | _ => False
 | .eptr b i off => match h.get b with
  | some (.arr _ L enc _) => so (L[i]?) fun x => so (qg1 tab t (enc x) off) k
  | _ => False
 | .rptr cs off => so (qg1 tab t cs off) k
 | _ => False
def qo7 (h : SH) (t : TypeId) (p v : SV) (k : SH -> Prop) : Prop :=
 match tab.siz.get t with
 | some n => ck (!(Nat.beq n 0) && v.known && Nat.beq v.cells.length n && v.cells.all qga) (match p with
  | .ptr b off => match h.get b with
   | some (.cells cs e) => ck (Nat.ble (off + n) cs.length) (k (h.set b (some (.cells (qe4 cs off v.cells) e))))
   | _ => False
  | _ => False)
 | none => False
end
end Go.Sy
namespace Go.Sy
open Go.Am
universe u v
inductive Ev : Type 1 where
 | kill (b : Nat)
 | mod (b : Nat)
 | frz (b : Nat) (X : Type) (L : List X) (enc : X -> List SV)
def qcy : List Ev -> List Nat
 | [] => []
 | .mod b :: l => b :: qcy l
 | .kill b :: l => b :: qcy l
 | _ :: l => qcy l
mutual
def SV.on (e : Ev) : SV -> SV
 | .eptr b i off => match e with
  | .kill c => bif Nat.beq b c then .any else .eptr b i off
  | .frz c _ L enc => bif Nat.beq b c then (match L[i]? with | some x => .rptr (enc x) off | none => .any) else .eptr b i off
  | .mod _ => .eptr b i off
 | .own b => match e with
  | .kill c => bif Nat.beq b c then .any else .own b
  | .frz c X L enc => bif Nat.beq b c then .lst X L enc else .own b
  | .mod _ => .own b
 | .sl b off len cap => match e with
  | .kill c => bif Nat.beq b c then .any else .sl b off len cap
  | .frz c _ _ _ => bif Nat.beq b c then .any else .sl b off len cap
  | .mod _ => .sl b off len cap
 | .ptr b off => match e with
  | .kill c => bif Nat.beq b c then .any else .ptr b off
  | .frz c _ _ _ => bif Nat.beq b c then .any else .ptr b off
  | .mod _ => .ptr b off
 | .fn f xs ys => .fn f (zz34 e xs) (zz34 e ys)
 | .agg cs => .agg (zz34 e cs)
 | .tup cs => .tup (zz34 e cs)
 | v => v
def zz34 (e : Ev) : List SV -> List SV
 | [] => []
 | v :: l => SV.on e v :: zz34 e l
end
def SO.on (e : Ev) : SO -> SO
 | .cells cs t => .cells (zz34 e cs) t
 | o => o
def onH (e : Ev) : List (Nat × Option SO) -> List (Nat × Option SO)
 | [] => []
 | (b, none) :: l => (b, none) :: onH e l
 | (b, some o) :: l => (b, some (o.on e)) :: onH e l
def onF (e : Ev) : Fr -> Fr
 | [] => []
 | (t, v) :: l => (t, v.on e) :: onF e l
structure St : Type 1 where
 ts : Fr
 h : SH
 log : List Ev
def St.note : St -> Ev -> St
 | ⟨ts, h, log⟩, e => ⟨ts, h, log ++ [e]⟩
def St.ev : St -> Ev -> St
 | ⟨ts, ⟨n, os⟩, log⟩, e => ⟨onF e ts, ⟨n, onH e os⟩, log ++ [e]⟩
def St.new : St -> SO -> St
 | ⟨ts, h, log⟩, o => ⟨ts, h.new o, log⟩
def St.setO : St -> Nat -> SO -> St
 | ⟨ts, h, log⟩, b, o => ⟨ts, h.set b (some o), log⟩
def St.del : St -> Nat -> St
 | ⟨ts, h, log⟩, b => ⟨ts, h.set b none, log⟩
def St.ofH : St -> SH -> List Ev -> St
 | ⟨ts, _, log⟩, h, l => ⟨ts, h, log ++ l⟩
def qb8 {α : Type u} : List α -> (List α -> Prop) -> Prop
 | [], K => K []
 | x :: l, K => qb8 l fun l' => K (x :: l')
def qn7 (v : SV) (K : SV -> Prop) : Prop :=
 match v with
 | .bool b => K (.bool b)
 | .int k n => K (.int k n)
 | .str s => K (.str s)
 | .nilp => K .nilp
 | .wp a => K (.wp a)
 | .ptr b off => K (.ptr b off)
 | .eptr b i off => K (.eptr b i off)
 | .rptr cs off => qb8 cs fun cs => K (.rptr cs off)
 | .nils => K .nils
 | .sl b off n c => K (.sl b off n c)
 | .own b => K (.own b)
 | .lst X L enc => K (.lst X L enc)
 | .nilm => K .nilm
 | .map b => K (.map b)
 | .nilf => K .nilf
 | .fn f xs ys => qb8 xs fun xs => qb8 ys fun ys => K (.fn f xs ys)
 | .agg cs => qb8 cs fun cs => K (.agg cs)
 | .tup cs => qb8 cs fun cs => K (.tup cs)
 | .any => K .any
def qrz (o : SO) (K : SO -> Prop) : Prop :=
 match o with
 | .cells cs t => qb8 cs fun cs => K (.cells cs t)
 | .arr X L enc t => K (.arr X L enc t)
def qjp (h : SH) (K : SH -> Prop) : Prop :=
 match h with
 | ⟨n, os⟩ => match os with
  | (b, some o) :: l => qrz o fun o => K ⟨n, (b, some o) :: l⟩
  | l => K ⟨n, l⟩
def qeS {α : Type} : T α -> (T α -> Prop) -> Prop
 | .e, K => K .e
 | .n v l r, K => qeS l fun l => qeS r fun r => match v with
  | some a => K (.n (some a) l r)
  | none => K (.n none l r)
structure View : Type 1 where
 X : Type
 enc : X -> List SV
def qnl (tab : Tab) (t : TypeId) : Option (List SV) := (tab.zer.get t).bind qqD
def sOf : R AV -> Option SV
 | .ok v => ofAV v
 | .no _ => none
def ltI (x y : Int) : Bool :=
 match x with
 | .ofNat a => match y with
  | .ofNat b => Nat.blt a b
  | .negSucc _ => false
 | .negSucc a => match y with
  | .ofNat _ => true
  | .negSucc b => Nat.blt b a
def leI (x y : Int) : Bool :=
 match x with
 | .ofNat a => match y with
  | .ofNat b => Nat.ble a b
  | .negSucc _ => false
 | .negSucc a => match y with
  | .ofNat _ => true
  | .negSucc b => Nat.ble b a
def loI : IntKind -> Int
 | .i8 => .negSucc 127 | .i16 => .negSucc 32767 | .i32 => .negSucc 2147483647 | .i64 => .negSucc 9223372036854775807
 | _ => .ofNat 0
def hiI : IntKind -> Int
 | .i8 => .ofNat 127 | .i16 => .ofNat 32767 | .i32 => .ofNat 2147483647 | .i64 => .ofNat 9223372036854775807
 | .u8 => .ofNat 255 | .u16 => .ofNat 65535 | .u32 => .ofNat 4294967295 | .u64 => .ofNat 18446744073709551615
def inR (k : IntKind) (n : Int) : Bool := leI (loI k) n && leI n (hiI k)
def nn (n : Int) : Bool := match n with | .ofNat _ => true | .negSucc _ => false
def natS (v : SV) (k : Nat -> Prop) : Prop :=
 match v with
 | .int _ n => ck (nn n) (k n.toNat)
 | _ => False
section
variable (tab : Tab) (view : TypeId -> Option View)
def eqFS (eq : TypeId -> SV -> SV -> Option Bool) : List Field -> List SV -> List SV -> Option Bool
 | [], _, _ => some true
 | f :: fs, xs, ys =>
  bif decide (f.name = "_") then eqFS eq fs xs ys else
   match qg1 tab f.type xs f.offset, qg1 tab f.type ys f.offset with
   | some a, some b => match eq f.type a b, eqFS eq fs xs ys with
    | some p, some q => some (p && q)
    | _, _ => none
   | _, _ => none
def eqTS : Nat -> TypeId -> SV -> SV -> Option Bool
 | 0, _, _, _ => none
 | d + 1, t, x, y =>
  match tab.und.get t, x, y with
  | some .bool, .bool a, .bool b => some (a == b)
  | some (.int _), .int k a, .int j b => bif decide (k = j) then some (a == b) else none
  | some .string, .str a, .str b => some (a == b)
  | some (.pointer _), .nilp, .nilp => some true
  | some (.pointer _), .nilp, .ptr _ _ => some false
  | some (.pointer _), .ptr _ _, .nilp => some false
  | some (.pointer _), .wp _, .nilp => some false
  | some (.pointer _), .nilp, .wp _ => some false
  | some (.slice _), .nils, .nils => some true
  | some (.map _ _), .nilm, .nilm => some true
  | some (.map _ _), .nilm, .map _ => some false
  | some (.map _ _), .map _, .nilm => some false
  | some (.func _ _ _), .nilf, .nilf => some true
  | some (.func _ _ _), .nilf, .fn .. => some false
  | some (.func _ _ _), .fn .., .nilf => some false
  | some (.struct fs), .agg xs, .agg ys =>
   match tab.held.get t with
   | some false => eqFS tab (eqTS d) fs.toList xs ys
   | _ => none
  | _, _, _ => none
def encB (b : UInt8) : List SV := [.int .u8 (.ofNat b.toNat)]
def qky (c : List UInt8) : List SV := c.map fun b => .int .u8 (.ofNat b.toNat)
def qoW (op : BinOp) (k : IntKind) (x y : Int) (K : SV -> Prop) : Prop :=
 let fit (n : Int) : Prop := bif k.signed then ck (inR k n) (K (.int k n)) else K (.int k (k.wrap n))
 match op with
 | .add => fit (x + y)
 | .sub => fit (x - y)
 | .mul => fit (x * y)
 | .quo => ck (!(y == 0)) (fit (x.tdiv y))
 | .rem => ck (!(y == 0)) (K (.int k (x.tmod y)))
 | .eql => K (.bool (x == y))
 | .neq => K (.bool (!(x == y)))
 | .lss => K (.bool (ltI x y))
 | .leq => K (.bool (leI x y))
 | .gtr => K (.bool (ltI y x))
 | .geq => K (.bool (leI y x))
 | op => so (sOf (intOp op k x y)) K
def sbin (op : BinOp) (t : TypeId) (x y : SV) (K : SV -> Prop) : Prop :=
 match op, x, y with
 | .shl, .int k a, .int _ b => ck (nn b) (so (sOf (.ok (.int k (k.wrap (a * 2 ^ (min b.toNat k.bits)))))) K)
 | .shr, .int k a, .int _ b => ck (nn b) (so (sOf (.ok (.int k (a.fdiv (2 ^ (min b.toNat k.bits)))))) K)
 | op, .int k a, .int j b => ck (decide (k = j)) (qoW op k a b K)
 | .add, .str a, .str b => ck (Nat.ble (a.length + b.length) 1048576) (K (.str (a ++ b)))
 | .eql, .str a, .str b => K (.bool (a == b))
 | .neq, .str a, .str b => K (.bool (!(a == b)))
 | .lss, .str a, .str b => K (.bool (Op.bytesLess a b))
 | .leq, .str a, .str b => K (.bool (Op.bytesLess a b || a == b))
 | .gtr, .str a, .str b => K (.bool (!(Op.bytesLess a b || a == b)))
 | .geq, .str a, .str b => K (.bool (!Op.bytesLess a b))
 | .eql, .agg a, .agg b => match tab.grd.get t with | some false => so (eqTS tab 8 t (.agg a) (.agg b)) fun p => K (.bool p) | _ => False
 | .neq, .agg a, .agg b => match tab.grd.get t with | some false => so (eqTS tab 8 t (.agg a) (.agg b)) fun p => K (.bool (!p)) | _ => False
 | .eql, x, y => so (eqTS tab 8 t x y) fun p => K (.bool p)
 | .neq, x, y => so (eqTS tab 8 t x y) fun p => K (.bool (!p))
 | _, _, _ => False
def sun (op : UnOp) (x : SV) (K : SV -> Prop) : Prop :=
 match op, x with
 | .neg, .int k n => bif k.signed then ck (inR k (0 - n)) (K (.int k (0 - n))) else K (.int k (k.wrap (0 - n)))
 | .xor, .int k n => so (sOf (unOp .xor (.int k n))) K
 | .not, .bool b => K (.bool (!b))
 | _, _ => False
def qkC (cs : List SV) : List (Nat × Nat × SV) -> Option (List SV)
 | [] => some cs
 | (off, n, v) :: rest => bif v.known && Nat.beq v.cells.length n && Nat.ble (off + n) cs.length then qkC (qe4 cs off v.cells) rest else none
def qg3 (fs : Array Field) : List (Nat × SV) -> Option (List (Nat × Nat × SV))
 | [] => some []
 | (i, v) :: rest => match fs[i]? with
  | some f => match tab.siz.get f.type, qg3 fs rest with
   | some n, some r => some ((f.offset, n, v) :: r)
   | _, _ => none
  | none => none
def qhR (ts : Fr) : List (Nat × Operand) -> Option (List (Nat × SV))
 | [] => some []
 | (i, x) :: l => match sev ts x, qhR ts l with
  | some v, some r => some ((i, v) :: r)
  | _, _ => none
def qnw (t : TypeId) (ps : List (Nat × SV)) : Option SV :=
 match qnl tab t, tab.und.get t with
 | some z, some (.struct fs) => bif fs.toList.all (fun f => (tab.siz.get f.type).isSome) then
   match qg3 tab fs ps with
   | some q => (qkC z q).map .agg
   | none => none
  else none
 | some z, some (.array _ e) => match tab.siz.get e with
  | some n => (qkC z (ps.map fun (i, v) => (i * n, n, v))).map .agg
  | none => none
 | _, _ => none
def repS : Nat -> List SV -> List SV
 | 0, _ => []
 | n + 1, l => l ++ repS n l
def qc7 (s : St) (t : TypeId) (len : Nat) (ps : List (Nat × SV)) (K : SV -> St -> Prop) : Prop :=
 match tab.und.get t with
 | some (.slice e) => match tab.siz.get e, qnl tab e with
  | some n, some z => ck (Nat.ble (len * n) 16777216 && Nat.beq z.length n) (bif Nat.beq len 0 then
    ck (ps.isEmpty && !(Nat.beq n 0)) (match view e with
    | some V => K (.own s.h.next) (s.new (.arr V.X [] V.enc e))
    | none => False)
   else so (qkC (repS len z) (ps.map fun (i, v) => (i * n, n, v))) fun cs => K (.sl s.h.next 0 len len) (s.new (.cells cs e)))
  | _, _ => False
 | _ => False
def natO (ts : Fr) (x : Option Operand) (K : Option Nat -> Prop) : Prop :=
 match x with
 | none => K none
 | some y => so (sev ts y) fun v => natS v fun n => K (some n)
def cutL {α : Type u} (l : List α) (lo hi : Option Nat) (K : List α -> Prop) : Prop :=
 match lo, hi with
 | none, none => K l
 | some a, none => ck (Nat.ble a l.length) (K (l.drop a))
 | none, some b => ck (Nat.ble b l.length) (K (l.take b))
 | some a, some b => ck (Nat.ble a b && Nat.ble b l.length) (K ((l.drop a).take (b - a)))
def qj1 (s : St) (t : TypeId) (x : SV) (lo hi : Option Operand) (K : SV -> St -> Prop) : Prop :=
 natO s.ts lo fun l => natO s.ts hi fun u =>
 match tab.und.get t, x with
 | some .string, .str c => cutL c l u fun c' => K (.str c') s
 | some (.slice e), .lst X L enc => match tab.siz.get e with
  | some n => (∀ x : X, (enc x).length = n) /\ cutL L l u fun L' => K (.lst X L' enc) s
  | none => False
 | some (.slice e), .own b => match s.h.get b, tab.siz.get e with
  | some (.arr X L enc _), some n => (∀ x : X, (enc x).length = n) /\ cutL L l u fun L' => K (.lst X L' enc) ((s.ev (.frz b X L enc)).del b)
  | _, _ => False
 | some (.slice e), .sl b off len cap => match tab.siz.get e with
  | some n => let a := l.getD 0
   let c := u.getD len
   ck (Nat.ble a c && Nat.ble c cap) (K (.sl b (bif Nat.beq cap a then off else off + a * n) (c - a) (cap - a)) s)
  | none => False
 | _, _ => False
def qp2 (s : St) (src dst : TypeId) (x : SV) (K : SV -> St -> Prop) : Prop :=
 match tab.und.get src, tab.und.get dst, x with
 | some _, some (.int k), .int _ n => K (.int k (k.wrap n)) s
 | some _, some .string, .str c => K (.str c) s
 | some _, some (.slice e), .str c => match tab.und.get e, tab.siz.get e with
  | some (.int .u8), some 1 => K (.lst UInt8 c encB) s
  | _, _ => False
 | some (.slice e), some .string, .nils => match tab.und.get e with
  | some (.int .u8) => K (.str []) s
  | _ => False
 | some (.slice e), some .string, .lst X L enc => match tab.und.get e with
  | some (.int .u8) => ∃ c : List UInt8, SV.lst X L enc = SV.lst UInt8 c encB /\ K (.str c) s
  | _ => False
 | some (.slice e), some .string, .own b => match tab.und.get e, s.h.get b with
  | some (.int .u8), some (.arr X L enc _) => ∃ c : List UInt8, SV.lst X L enc = SV.lst UInt8 c encB /\ K (.str c) s
  | _, _ => False
 | some (.slice e), some .string, .sl b off len _ => match tab.und.get e, s.h.get b with
  | some (.int .u8), some (.cells cs _) => ck (Nat.ble (off + len) cs.length) (∃ c : List UInt8, (cs.drop off).take len = qky c /\ K (.str c) s)
  | _, _ => False
 | _, _, _ => False
def qlQ (t : TypeId) (f : Nat) : Option Field :=
 match tab.und.get t with
 | some (.struct fs) => fs[f]?
 | _ => none
def qhi (n : Nat) : Nat -> List SV -> List (List SV)
 | 0, _ => []
 | m + 1, l => l.take n :: qhi n m (l.drop n)
def exL {X : Type} (enc : X -> List SV) : List (List SV) -> (List X -> Prop) -> Prop
 | [], K => K []
 | c :: cs, K => ∃ x : X, enc x = c /\ exL enc cs fun l => K (x :: l)
def qbq : List SV -> St -> St
 | [], s => s
 | .own b :: l, s => match s.h.get b with
  | some (.arr X L enc _) => qbq l ((s.ev (.frz b X L enc)).del b)
  | _ => qbq l s
 | _ :: l, s => qbq l s
def appL (s : St) (e n by_ : Nat) (x : SV) (Y : Type) (M : List Y) (enc' : Y -> List SV) (K : SV -> St -> Prop) : Prop :=
 match x with
 | .nils => (∀ x : Y, (enc' x).length = n /\ (enc' x).all qdI = true) /\ ck (Nat.ble (M.length * by_) 16777216 && Nat.ble M.length 16777216) (K (.own s.h.next) (s.new (.arr Y M enc' e)))
 | .own d => match s.h.get d with
  | some (.arr X L enc e') => ck (Nat.beq e e') ((∀ x : Y, (enc' x).length = n /\ (enc' x).all qdI = true) /\ ∃ M' : List X, SV.lst Y M enc' = SV.lst X M' enc /\ ck (Nat.ble ((L.length + M'.length) * by_) 16777216 && Nat.ble (L.length + M'.length) 16777216) (K (.own d) (((s.ev (.kill d)).setO d (.arr X (L ++ M') enc e)).note (.mod d))))
  | _ => False
 | _ => False
def appC (s : St) (e n by_ m : Nat) (x : SV) (cs : List SV) (K : SV -> St -> Prop) : Prop :=
 match x with
 | .nils => match view e with
  | some V => exL V.enc (qhi n m cs) fun l => ck (Nat.ble (l.length * by_) 16777216 && Nat.ble l.length 16777216) (K (.own s.h.next) (s.new (.arr V.X l V.enc e)))
  | none => False
 | .own d => match s.h.get d with
  | some (.arr X L enc e') => ck (Nat.beq e e') (exL enc (qhi n m cs) fun l => ck (Nat.ble ((L.length + l.length) * by_) 16777216 && Nat.ble (L.length + l.length) 16777216) (K (.own d) (((s.ev (.kill d)).setO d (.arr X (L ++ l) enc e)).note (.mod d))))
  | _ => False
 | _ => False
def qkf (s : St) (e : TypeId) (x y : SV) (K : SV -> St -> Prop) : Prop :=
 match tab.siz.get e, tab.byt.get e with
 | some n, some by_ =>
  ck (!(Nat.beq n 0) && (match qnl tab e with | some z => Nat.beq z.length n | none => false))
  (match y with
  | .sl b off m _ => match s.h.get b with
   | some (.cells cs0 _) =>
    match (qbq ((cs0.drop off).take (m * n)) s).h.get b with
    | some (.cells cs _) => ck (Nat.ble (off + m * n) cs.length && ((cs.drop off).take (m * n)).all qdI) (appC view (qbq ((cs0.drop off).take (m * n)) s) e n by_ m x ((cs.drop off).take (m * n)) K)
    | _ => False
   | _ => False
  | .lst Y M enc' => appL s e n by_ x Y M enc' K
  | .own b => match s.h.get b with
   | some (.arr Y M enc' _) => appL ((s.ev (.frz b Y M enc')).del b) e n by_ x Y M enc' K
   | _ => False
  | .nils => match x with
   | .nils => K .nils s
   | _ => False
  | _ => False)
 | _, _ => False
def minS (k : IntKind) : Int -> List SV -> Option SV
 | x, [] => some (.int k x)
 | x, .int _ y :: l => minS k (if y < x then y else x) l
 | _, _ => none
def maxS (k : IntKind) : Int -> List SV -> Option SV
 | x, [] => some (.int k x)
 | x, .int _ y :: l => maxS k (if y > x then y else x) l
 | _, _ => none
def lenS (s : St) (x : SV) : Option Nat :=
 match x with
 | .nils => some 0
 | .lst _ L _ => some L.length
 | .sl _ _ n _ => some n
 | .own b => match s.h.get b with
  | some (.arr _ L _ _) => some L.length
  | _ => none
 | _ => none
def qdU (s : St) (b : Builtin) (ats : Array TypeId) (args : List SV) (K : SV -> St -> Prop) : Prop :=
 match b, args with
 | .len, [x] => match (ats[0]?).bind tab.und.get with
  | some .string => match x with | .str c => K (.int .i64 (.ofNat c.length)) s | _ => False
  | some (.slice _) => so (lenS s x) fun n => K (.int .i64 (.ofNat n)) s
  | _ => False
 | .append, [x, y] => match (ats[0]?).bind tab.und.get, (ats[1]?).bind tab.und.get with
  | some (.slice e), some (.slice _) => qkf tab view s e x y K
  | _, _ => False
 | .min, .int k x :: l => so (minS k x l) fun v => K v s
 | .max, .int k x :: l => so (maxS k x l) fun v => K v s
 | _, _ => False
def qqz : SV -> List Ev
 | .ptr b _ => [.mod b]
 | _ => []
def sop (s : St) (o : Oper) (K : SV -> St -> Prop) : Prop :=
 match o.op with
 | .move x => so (sev s.ts x) fun v => K v s
 | .assign x => so (sev s.ts x) fun v => K v s
 | .pick c a b => match sev s.ts c with
  | some (.bool p) => match sev s.ts a, sev s.ts b with
   | some (.bool x), some (.bool y) => K (.bool (bif p then x else y)) s
   | u, v => br p (so u fun v => K v s) (so v fun v => K v s)
  | _ => False
 | .alloc e => so (tab.siz.get e) fun _ => so (qnl tab e) fun cs => K (.ptr s.h.next 0) (s.new (.cells cs e))
 | .box e x => so (tab.siz.get e) fun _ => so (sev s.ts x) fun v => ck v.known (K (.ptr s.h.next 0) (s.new (.cells v.cells e)))
 | .build t ps => so (qhR s.ts ps.toList) fun l => so (qnw tab t l) fun v => K v s
 | .buildSlice t n ps => so (qhR s.ts ps.toList) fun l => qc7 tab view s t n l K
 | .load t a => so (sev s.ts a) fun p => qqs tab s.h t p fun v => K v s
 | .store t a x => so (sev s.ts a) fun p => so (sev s.ts x) fun v => qo7 tab s.h t p v fun h' => K (.tup []) (s.ofH h' (qqz p))
 | .nilCheck x => so (sev s.ts x) fun v => match v with
  | .ptr .. | .eptr .. | .rptr .. | .fn .. => K v s
  | _ => False
 | .binOp op t x y _ => so (sev s.ts x) fun a => so (sev s.ts y) fun b => sbin tab op t a b fun v => K v s
 | .unOp op _ x => so (sev s.ts x) fun a => sun op a fun v => K v s
 | .convert a b x => so (sev s.ts x) fun v => qp2 tab s a b v K
 | .makeFunc fn first captured => match fn with
  | .func f => so (sevs s.ts first.toList) fun xs => so (sevs s.ts captured.toList) fun ys => K (.fn f xs ys) s
  | _ => False
 | .slice t x lo hi none => so (sev s.ts x) fun v => qj1 tab s t v lo hi K
 | .fieldAddr st x f => so (qlQ tab st f) fun fd => ck (match tab.siz.get fd.type with | some n => !(Nat.beq n 0) | none => false) (so (sev s.ts x) fun v => match v with
  | .ptr b off => K (.ptr b (off + fd.offset)) s
  | .eptr b i off => K (.eptr b i (off + fd.offset)) s
  | .rptr cs off => K (.rptr cs (off + fd.offset)) s
  | _ => False)
 | .field t x f => so (qlQ tab t f) fun fd => so (sev s.ts x) fun v => match v with
  | .agg cs => so (qg1 tab fd.type cs fd.offset) fun u => K u s
  | _ => False
 | .indexAddr t x ix => so (sev s.ts ix) fun j => natS j fun i => so (sev s.ts x) fun v => match tab.und.get t, v with
  | some (.array len e), .ptr b off => match tab.siz.get e with
   | some n => ck (Nat.blt i len) (K (.ptr b (off + i * n)) s)
   | none => False
  | some (.slice e), .sl b off len _ => match tab.siz.get e with
   | some n => ck (Nat.blt i len) (K (.ptr b (off + i * n)) s)
   | none => False
  | some (.slice e), .lst _ L enc => match tab.siz.get e with
   | some n => so (L[i]?) fun x => ck (Nat.beq (enc x).length n) (K (.rptr (enc x) 0) s)
   | none => False
  | some (.slice e), .own b => match tab.siz.get e, s.h.get b with
   | some _, some (.arr _ L _ e') => ck (Nat.beq e e' && Nat.blt i L.length) (K (.eptr b i 0) s)
   | _, _ => False
  | _, _ => False
 | .index t x ix => so (sev s.ts ix) fun j => natS j fun i => so (sev s.ts x) fun v => match tab.und.get t, v with
  | some (.array len e), .agg cs => match tab.siz.get e with
   | some n => ck (Nat.blt i len) (so (qg1 tab e cs (i * n)) fun u => K u s)
   | none => False
  | some .string, .str c => so (c[i]?) fun b => K (.int .u8 (.ofNat b.toNat)) s
  | _, _ => False
 | .extract t i => so (sev s.ts t) fun v => match v with
  | .tup vs => so (vs[i]?) fun u => K u s
  | _ => False
 | .call c => match c.callee with
  | .builtin b => so (sevs s.ts c.args.toList) fun l => qdU tab view s b c.argTypes l K
  | _ => False
 | _ => False
end
end Go.Sy
namespace Go.Sy
open Go.Am
universe u v
structure Con : Type 1 where
 Y : Type
 pre : Y -> Prop
 args : Y -> List SV
 res : Y -> SV
structure Ann : Type 1 where
 α : Type
 ok : α -> Prop
 μ : α -> Nat
 keep : List Nat
 slots : α -> List (Nat × SV)
 objs : α -> List (Nat × SO)
 frz : List Nat := []
 link : Option (α -> α -> Prop) := none
structure Cfg : Type 1 where
 tab : Tab
 view : TypeId -> Option View
 con : FuncId -> Option Con
 ann : FuncId -> Nat -> Option Ann
inductive SItem : Type 1 where
 | code (c : Code)
 | inBlock (id : Nat)
 | inLoop (body : Code)
 | head (chk : Fr -> SH -> List Ev -> Prop)
 | inScope (body : Code)
 | inRegion (ops : Array Oper) (l : List Nat)
structure SM : Type 1 where
 fn : FuncId
 nt : Nat
 base : Nat
 todo : List SItem
 s : St
mutual
def SV.lt (n : Nat) : SV -> Bool
 | .ptr b _ => Nat.blt b n
 | .eptr b _ _ => Nat.blt b n
 | .own b => Nat.blt b n
 | .sl b _ _ _ => Nat.blt b n
 | .map b => Nat.blt b n
 | .fn _ xs ys => zz68 n xs && zz68 n ys
 | .agg cs => zz68 n cs
 | .tup cs => zz68 n cs
 | _ => true
def zz68 (n : Nat) : List SV -> Bool
 | [] => true
 | v :: l => SV.lt n v && zz68 n l
end
mutual
def SV.full : SV -> Bool
 | .any => false
 | .fn _ xs ys => zz49 xs && zz49 ys
 | .agg cs => zz49 cs
 | .tup cs => zz49 cs
 | _ => true
def zz49 : List SV -> Bool
 | [] => true
 | v :: l => SV.full v && zz49 l
end
def SO.lt (n : Nat) : SO -> Bool
 | .cells cs _ => zz68 n cs
 | .arr .. => true
def Ev.id : Ev -> Nat
 | .kill b => b
 | .mod b => b
 | .frz b _ _ _ => b
def eqS (v e : SV) : Prop :=
 match v, e with
 | .bool a, .bool b => a = b
 | .int k a, .int j b => ck (decide (k = j)) (a = b)
 | .str a, .str b => a = b
 | .ptr a i, .ptr b j => ck (Nat.beq a b && Nat.beq i j) True
 | .own a, .own b => ck (Nat.beq a b) True
 | .nilp, .nilp => True
 | .nils, .nils => True
 | .nilm, .nilm => True
 | .nilf, .nilf => True
 | .nils, .lst _ L _ => L = []
 | _, .any => True
 | v, e => v = e
def eqSL : List SV -> List SV -> Prop
 | [], [] => True
 | a :: l, b :: m => eqS a b /\ eqSL l m
 | _, _ => False
def eqSO (o e : SO) : Prop :=
 match o, e with
 | .cells a t, .cells b u => ck (Nat.beq t u) (eqSL a b)
 | .arr X L enc t, .arr X' L' enc' u => ck (Nat.beq t u) (SV.lst X L enc = SV.lst X' L' enc')
 | _, _ => False
def fitO (tab : Tab) (next p : Nat) (o e : Option SO) : Prop :=
 match e, o with
 | none, _ => True
 | some (.arr X L enc t), some o => eqSO o (.arr X L enc t)
 | some (.arr X L enc t), none => ck (Nat.ble next p) (L = [] /\ so (tab.siz.get t) fun n => ck (!(Nat.beq n 0)) (∀ x : X, (enc x).length = n))
 | some e, some o => eqSO o e
 | some _, none => False
def qso (tab : Tab) (h e : SH) : Nat -> Prop
 | 0 => True
 | n + 1 => fitO tab h.next n (h.get n) (e.get n) /\ qso tab h e n
def fitH (tab : Tab) (h e : SH) : Prop := qso tab h e e.next
def fitV (h eh : SH) (v e : SV) : Prop :=
 match e, v with
 | .own b, .nils => match h.get b, eh.get b with | none, some (.arr ..) => True | _, _ => False
 | e, v => eqS v e
def fitT (ts : Fr) (h eh : SH) : Fr -> Prop
 | [] => True
 | (t, e) :: l => so (look ts t) (fun v => fitV h eh v e) /\ fitT ts h eh l
def stay (n : Nat) (h eh : SH) : Bool := (List.range n).all fun p => match h.get p, eh.get p with | some _, none => false | _, _ => true
def qkk (ts : Fr) (e : Fr) : List Nat -> Fr
 | [] => e
 | t :: l => match look ts t with | some v => (t, v) :: qkk ts e l | none => qkk ts e l
def putO : SH -> List (Nat × SO) -> SH
 | h, [] => h
 | ⟨n, os⟩, (b, o) :: l => putO ⟨Nat.max n (b + 1), (b, some o) :: os⟩ l
def Ann.at (A : Ann) (s : St) (x : A.α) : Fr × SH := (qkk s.ts (A.slots x) A.keep, putO s.h (A.objs x))
def low (ts : Fr) (h : SH) : Bool := ts.all (fun x => x.2.lt h.next) && h.os.all (fun x => Nat.blt x.1 h.next && (match x.2 with | some o => o.lt h.next | none => true))
def qb5 : Code -> Option Nat
 | .region id _ _ => some id
 | .seq a b => match qb5 a with | some r => some r | none => qb5 b
 | .cond _ a b => match qb5 a with | some r => some r | none => qb5 b
 | .block _ b => qb5 b
 | .loop b => qb5 b
 | .scope b => qb5 b
 | .rangeFunc _ _ a b => match qb5 a with | some r => some r | none => qb5 b
 | _ => none
def qhn (id : Nat) : List SItem -> Option (List SItem)
 | .inBlock j :: k => bif Nat.beq j id then some k else qhn id k
 | _ :: k => qhn id k
 | [] => none
section
variable (cfg : Cfg)
def argM : Nat -> List SV -> List SV -> St -> (St -> Prop) -> Prop
 | 0, _, _, _, _ => False
 | _ + 1, [], [], s, K => K s
 | n + 1, f :: fs, a :: as1, s, K =>
  match f, a with
  | .any, _ => argM n fs as1 s K
  | .bool x, .bool y => y = x /\ argM n fs as1 s K
  | .int k x, .int j y => ck (decide (k = j)) (y = x /\ argM n fs as1 s K)
  | .str x, .str y => y = x /\ argM n fs as1 s K
  | .nilp, .nilp => argM n fs as1 s K
  | .wp x, .wp y => y = x /\ argM n fs as1 s K
  | .nils, .nils => argM n fs as1 s K
  | .nilm, .nilm => argM n fs as1 s K
  | .nilf, .nilf => argM n fs as1 s K
  | .lst X L enc, .lst X' L' enc' => SV.lst X' L' enc' = SV.lst X L enc /\ argM n fs as1 s K
  | .lst _ L _, .nils => L = [] /\ argM n fs as1 s K
  | .lst X L enc, .own b => match s.h.get b with
   | some (.arr X' L' enc' _) => SV.lst X' L' enc' = SV.lst X L enc /\ argM n fs (zz34 (.frz b X' L' enc') as1) ((s.ev (.frz b X' L' enc')).del b) K
   | _ => False
  | .lst X L enc, .sl b off m c => match s.h.get b with
   | some (.cells cs e) => match cfg.tab.siz.get e with
    | some r => ck (!(Nat.beq r 0) && Nat.ble m c && Nat.ble (off + m * r) cs.length && ((cs.drop off).take (m * r)).all qdI) (qhi r m ((cs.drop off).take (m * r)) = L.map enc /\ argM n fs (zz34 (.kill b) as1) ((s.ev (.kill b)).del b) K)
    | none => False
   | _ => False
  | .agg xs, .agg ys => ck (Nat.beq xs.length ys.length) (argM n (xs ++ fs) (ys ++ as1) s K)
  | .fn f xs us, .fn g ys vs => ck (Nat.beq f g && Nat.beq xs.length ys.length && Nat.beq us.length vs.length) (argM n (xs ++ (us ++ fs)) (ys ++ (vs ++ as1)) s K)
  | _, _ => False
 | _, _, _, _, _ => False
def qmZ : List Ev -> Fr -> Fr
 | [], ts => ts
 | e :: l, ts => qmZ l (onF e ts)
def qr3 (rec : SM -> (SV -> St -> Prop) -> Prop) (f : FuncId) (args : List SV) (s : St) (K : SV -> St -> Prop) : Prop :=
 match cfg.tab.fns.get f with
 | some fn => match fn.body with
  | some body => match cfg.con f with
   | some C => ∃ y : C.Y, argM cfg 1000 (C.args y) args s fun s => C.pre y /\ K (C.res y) s
   | none => match s with
    | ⟨ts, h, log⟩ => rec ⟨f, Nat.max fn.ntmps args.length, h.next, [.code body], ⟨Fr.of args 0, h, []⟩⟩ fun v s' =>
     match s' with
     | ⟨_, h', log'⟩ => K v ⟨qmZ log' ts, h', log ++ log'⟩
  | none => False
 | none => False
def putS (nt : Nat) (s : St) (d : Option Tmp) (v : SV) (K : St -> Prop) : Prop :=
 match s, d with
 | ⟨ts, h, log⟩, some d => bif Nat.blt d nt then qn7 v fun v => qjp h fun h => K ⟨(d, v) :: ts, h, log⟩ else K ⟨ts, h, log⟩
 | ⟨ts, h, log⟩, none => qjp h fun h => K ⟨ts, h, log⟩
def qjv (ops : Array Oper) (o : Oper) (s : St) (K : Bool -> St -> Prop) : Prop :=
 match o.guard with
 | none => K true s
 | some (j, w) =>
  match (ops[j]?).bind (·.dst) with
  | some d => match s with
   | ⟨ts, h, log⟩ => match look ts d with
    | some (.bool p) => br p (K w ⟨(d, .bool true) :: ts, h, log⟩) (K (!w) ⟨(d, .bool false) :: ts, h, log⟩)
    | some (.tup _) => K false ⟨ts, h, log⟩
    | _ => False
  | none => K false s
def qqa (rec : SM -> (SV -> St -> Prop) -> Prop) (s : St) (o : Oper) (K : SV -> St -> Prop) : Prop :=
 match o.op with
 | .call c => match c.callee with
  | .value f => so (sevs s.ts c.args.toList) fun args => so (sev s.ts f) fun v => match v with
   | .fn g first captured => qr3 cfg rec g (first ++ args ++ captured) s K
   | _ => False
  | _ => sop cfg.tab cfg.view s o K
 | _ => sop cfg.tab cfg.view s o K
structure SD : Type 1 where
 s : St
 anc : T (List Nat)
 reads : List (Nat × List Nat)
 allocs : List (Nat × Nat)
def qiw : SH -> List (Nat × Nat) -> SH
 | h, [] => h
 | h, (_, b) :: l => qiw (h.set b none) l
def logO (o : Option SO) : List Ev -> Option SO
 | [] => o
 | e :: l => logO (o.map (SO.on e)) l
def qfl (h h0 : SH) (log : List Ev) : List (Nat × Nat) -> SH
 | [] => h
 | (_, b) :: l => qfl (h.set b (logO (h0.get b) log)) h0 log l
def qkX (ts : Fr) (o : Oper) : List Nat :=
 match o.op with
 | .load _ a => match sev ts a with
  | some (.ptr b _) => [b]
  | some (.eptr b _ _) => [b]
  | _ => []
 | .indexAddr _ x _ => match sev ts x with
  | some (.own b) => [b]
  | _ => []
 | .call c => match c.args.toList with
  | [x] => match sev ts x with
   | some (.own b) => [b]
   | _ => []
  | _ => []
 | _ => []
def qjM (h : SH) : List Nat -> List (Nat × Option SO)
 | [] => []
 | b :: l => (b, h.get b) :: qjM h l
def qn5 (ops : Array Oper) (nt i : Nat) (o : Oper) (d : SD) (K : SD -> Prop) : Prop :=
 match d with
 | ⟨s, anc, reads, allocs⟩ =>
 ck (opOk anc ops i o) (qjv ops o s fun w s =>
  bif !w then qb8 (qaW anc o) fun an => qeS (anc.set i (some an)) fun anc => putS nt s o.dst (.tup []) fun s => K ⟨s, anc, reads, allocs⟩
  else match cls cfg.tab o with
  | .eff => K ⟨s, anc, reads, allocs⟩
  | .alloc => qb8 (qaW anc o) fun an => qeS (anc.set i (some an)) fun anc' => match s with
   | ⟨ts, h, log⟩ => sop cfg.tab cfg.view ⟨ts, h, []⟩ o fun v s' => match s' with
    | ⟨ts', h', log'⟩ => ck log'.isEmpty (putS nt ⟨ts', h', log⟩ o.dst v fun s' => K ⟨s', anc', reads, (i, h.next) :: allocs⟩)
  | _ => qb8 (qaW anc o) fun an => qeS (anc.set i (some an)) fun anc => match s with
   | ⟨ts, h, log⟩ => qb8 (qkX ts o) fun rs => ck (rs.all fun b => allocs.all fun x => !(Nat.beq x.2 b)) (sop cfg.tab cfg.view ⟨ts, ⟨h.next, qjM h rs⟩, []⟩ o fun v s' => ck (s'.log.isEmpty && v.full) (putS nt ⟨ts, h, log⟩ o.dst v fun s' => K ⟨s', anc, (i, rs) :: reads, allocs⟩)))
def qoK (ops : Array Oper) (nt : Nat) : Nat -> List Oper -> SD -> (SD -> Prop) -> Prop
 | _, [], d, K => K d
 | i, o :: l, d, K =>
  bif qa0 d.anc i o then qn5 cfg ops nt i o d fun d' => qoK ops nt (i + 1) l d' K
  else qoK ops nt (i + 1) l d K
def effS (rec : SM -> (SV -> St -> Prop) -> Prop) (ops : Array Oper) (nt i : Nat) (o : Oper) (d : SD) (K : SD -> Prop) : Prop :=
 match d with
 | ⟨s, anc, reads, allocs⟩ =>
 ck (opOk anc ops i o) (qjv ops o s fun w s =>
  ck w (qb8 (qaW anc o) fun an => qeS (anc.set i (some an)) fun anc =>
   qb8 (allocs.filter fun x => !(memN x.1 an)) fun hid => qb8 (reads.filter fun x => !(memN x.1 an)) fun reads => match s with
   | ⟨ts, h, log⟩ => qqa cfg rec ⟨ts, qiw h hid, []⟩ o fun v s' => match s' with
    | ⟨ts', h', log'⟩ => ck ((reads.all fun x => x.2.all fun b => !(memN b (log'.map Ev.id)) && (h'.get b).isSome && hid.all fun y => !(Nat.beq y.2 b)) && hid.all fun x => !(memN x.2 (log'.map Ev.id)))
     (putS nt ⟨ts', qfl h' h log' hid, log ++ log'⟩ o.dst v fun s' => K ⟨s', anc, reads, hid⟩)))
def qnV (rec : SM -> (SV -> St -> Prop) -> Prop) (ops : Array Oper) (nt : Nat) : Nat -> SD -> (St -> Prop) -> Prop
 | 0, _, _ => False
 | n + 1, d, K => qoK cfg ops nt 0 ops.toList d fun d1 =>
  match qc9 d1.anc 0 ops.toList with
  | [] => ck ((List.range ops.size).all fun i => (d1.anc.get i).isSome) (K d1.s)
  | [(i, o)] => effS cfg rec ops nt i o d1 fun d2 => qnV rec ops nt n d2 K
  | _ => False
def resS (s : St) : List ResultVar -> (List SV -> Prop) -> Prop
 | [], K => K []
 | .tmp t :: l, K => so (look s.ts t) fun v => resS s l fun vs => K (v :: vs)
 | .cell a t :: l, K => so (look s.ts a) fun p => qqs cfg.tab s.h t p fun v => resS s l fun vs => K (v :: vs)
def retS (fn : FuncId) (s : St) (Q : SV -> St -> Prop) : Prop :=
 match cfg.tab.fns.get fn with
 | some fn => resS cfg s fn.results.toList fun vs => Q (match vs with | [v] => v | vs => .tup vs) s
 | none => False
def fixC (s : St) (c : Operand) (p : Bool) : St :=
 match s, c with
 | ⟨ts, h, log⟩, .tmp t => ⟨(t, .bool p) :: ts, h, log⟩
 | s, _ => s
def frzV (ts : Fr) : List Nat -> List SV
 | [] => []
 | t :: l => match look ts t with | some v => v :: frzV ts l | none => frzV ts l
def frzS (A : Ann) (s : St) : St := qbq (frzV s.ts A.frz) s
def qsr (A : Ann) (s : St) (base : Nat) (x : A.α) (ts : Fr) (h : SH) (log : List Ev) : Prop :=
 match frzS A ⟨ts, h, log⟩ with
 | ⟨ts, h, log⟩ => ck (log.all fun e => Nat.ble base e.id) (∃ y : A.α, A.ok y /\ A.μ y < A.μ x /\ fitT ts h (A.at s y).2 (A.at s y).1 /\ fitH cfg.tab h (A.at s y).2 /\ ck (stay base h (A.at s y).2) True)
def qvO (A : Ann) (s : St) (base : Nat) (cont : (Fr -> SH -> List Ev -> Prop) -> St -> Prop) : Prop :=
 match frzS A s with
 | ⟨ts, h, log⟩ => (∃ x : A.α, A.ok x /\ fitT ts h (A.at ⟨ts, h, log⟩ x).2 (A.at ⟨ts, h, log⟩ x).1 /\ fitH cfg.tab h (A.at ⟨ts, h, log⟩ x).2 /\ ck (stay base h (A.at ⟨ts, h, log⟩ x).2) True) /\
  ∀ x : A.α, A.ok x -> ck (log.all (fun e => Nat.ble base e.id) && (low (A.at ⟨ts, h, log⟩ x).1 (A.at ⟨ts, h, log⟩ x).2 && Nat.ble base (A.at ⟨ts, h, log⟩ x).2.next)) (cont (qsr cfg A ⟨ts, h, log⟩ base x) ⟨(A.at ⟨ts, h, log⟩ x).1, (A.at ⟨ts, h, log⟩ x).2, log⟩)
def Ann.when (A : Ann) (R : A.α -> A.α -> Prop) (x0 : A.α) : Ann := { α := A.α, ok := fun x => A.ok x /\ R x0 x, μ := A.μ, keep := A.keep, slots := A.slots, objs := A.objs, frz := A.frz }
def qsy (A : Ann) (K : Ann -> Prop) : Prop :=
 match A.link with
 | none => K A
 | some R => ∃ x0 : A.α, K (A.when R x0)
theorem qqr {A : Ann} {K : Ann -> Prop} (h : qsy A K) : ∃ A', K A' := by
 unfold qsy at h; split at h
 · exact ⟨_, h⟩
 · obtain ⟨x0, h⟩ := h; exact ⟨_, h⟩
def wp : Nat -> SM -> (SV -> St -> Prop) -> Prop
 | 0, _, _ => False
 | n + 1, ⟨fn, nt, base, todo, s⟩, Q =>
  match todo with
  | [] => retS cfg fn s Q
  | .code .ret :: _ => retS cfg fn s Q
  | .code .skip :: k => wp n ⟨fn, nt, base, k, s⟩ Q
  | .code (.label _) :: k => wp n ⟨fn, nt, base, k, s⟩ Q
  | .inBlock _ :: k => wp n ⟨fn, nt, base, k, s⟩ Q
  | .inScope _ :: k => wp n ⟨fn, nt, base, k, s⟩ Q
  | .code (.seq a b) :: k => wp n ⟨fn, nt, base, .code a :: .code b :: k, s⟩ Q
  | .code (.cond c a b) :: k => match sev s.ts c with
   | some (.bool p) => br p (wp n ⟨fn, nt, base, .code a :: k, fixC s c true⟩ Q) (wp n ⟨fn, nt, base, .code b :: k, fixC s c false⟩ Q)
   | _ => False
  | .code (.block id b) :: k => wp n ⟨fn, nt, base, .code b :: .inBlock id :: k, s⟩ Q
  | .code (.scope b) :: k => wp n ⟨fn, nt, base, .code b :: .inScope b :: k, s⟩ Q
  | .code (.loop b) :: k => match (qb5 b).bind (cfg.ann fn) with
   | none => wp n ⟨fn, nt, base, .code b :: .inLoop b :: k, s⟩ Q
   | some A => qsy A fun A => qvO cfg A s base fun chk s' => wp n ⟨fn, nt, base, .code b :: .head chk :: k, s'⟩ Q
  | .inLoop b :: k => wp n ⟨fn, nt, base, .code b :: .inLoop b :: k, s⟩ Q
  | .head chk :: _ => chk s.ts s.h s.log
  | .code (.exit id) :: k => match qhn id k with
   | some k' => wp n ⟨fn, nt, base, k', s⟩ Q
   | none => False
  | .code (.region _ ops false) :: k => wp n ⟨fn, nt, base, .inRegion ops (List.range ops.size) :: k, s⟩ Q
  | .code (.region _ ops true) :: k => ck (qjP 0 ops.toList) (qnV cfg (wp n) ops nt (ops.size + 1) ⟨s, .e, [], []⟩ fun s => wp n ⟨fn, nt, base, k, s⟩ Q)
  | .inRegion _ [] :: k => wp n ⟨fn, nt, base, k, s⟩ Q
  | .inRegion ops (i :: rest) :: k => match ops[i]? with
   | some o => qjv ops o s fun w s =>
    bif w then qqa cfg (wp n) s o fun v s' => putS nt s' o.dst v fun s' => wp n ⟨fn, nt, base, .inRegion ops rest :: k, s'⟩ Q
    else putS nt s o.dst (.tup []) fun s' => wp n ⟨fn, nt, base, .inRegion ops rest :: k, s'⟩ Q
   | none => False
  | _ => False
def ask (n : Nat) (f : FuncId) (args : List SV) (Q : SV -> St -> Prop) : Prop :=
 match cfg.tab.fns.get f with
 | some fn => match fn.body with
  | some body => wp cfg n ⟨f, Nat.max fn.ntmps args.length, 0, [.code body], ⟨Fr.of args 0, ⟨0, []⟩, []⟩⟩ Q
  | none => False
 | none => False
end
end Go.Sy
namespace Go.Sy
open Go.Am Go.RowKit
variable [Inhabited DrP]
theorem _root_.Go.Am.Based.rest {E : Env} {h h0 : AH} {K : KS} {w : World} (hB : Based K w) : Based (Am.Rest E h h0 K) w := fun b hb => ⟨.inl (hB b hb).1, (hB b hb).2⟩
def OldW (w : World) : Prop := ∀ b, b < (default : DrP).old.size -> w.heap[b]? = (default : DrP).old[b]?
theorem OldW.lt {w : World} (h : OldW w) {b : Nat} (hb : b < (default : DrP).old.size) : b < w.heap.size := by
 have := h b hb; rw [Array.getElem?_eq_getElem hb] at this; exact (Array.getElem?_eq_some_iff.1 this).1
theorem OldW.based {w : World} (h : OldW w) : Based (KS.old w.heap.size) w := fun b hb => ⟨h.lt hb, h b hb⟩
theorem OldW.below {w w' : World} (h : OldW w) (hb : Below w.heap.size w w') : OldW w' := fun b hb' => by rw [hb.block b (h.lt hb')]; exact h b hb'
theorem OldW.of0 (h : (default : DrP).old.size = 0) (w : World) : OldW w := fun b hb => by omega
theorem _root_.Go.Am.Based.of0 (h : (default : DrP).old.size = 0) (K : KS) (w : World) : Based K w := fun b hb => by omega
def AGo (P : Program) (m : AM) (Ψ : AV -> AH -> Prop) : Prop :=
 ∀ (D : Nat -> Prop) (E : Env) (K : KS) (base : List Frame) (frC : Frame) (csC : List Frame) (w : World), Rel D E K m base frC csC w -> Based K w ->
  ∃ v h', Ψ v h' /\ Am.Ends P m.h.next (lone frC csC w) D E K v h' base (bot m.fr m.cs) w
structure PrOK (P : Program) (tab : Tab) : Prop where
 ok : TabOK P tab
 ext : qez P tab
 mix : P.follows .mixedOrders = true
theorem AGo.mono {P : Program} {m : AM} {Ψ Φ : AV -> AH -> Prop} (h : AGo P m Ψ) (hi : ∀ v h', Ψ v h' -> Φ v h') : AGo P m Φ := by
 intro D E K base frC csC w hR hB; obtain ⟨v, h', h1, h2⟩ := h D E K base frC csC w hR hB; exact ⟨v, h', hi v h' h1, h2⟩
def sub0 : FuncId -> List AV -> AH -> R (List (AV × AH)) := fun _ _ _ => .no "sub0"
theorem qiP {P : Program} {tab : Tab} : qeA P tab sub0 := by
 intro f fn body args h outs _ _ ho
 cases ho
section
variable {P : Program} {tab : Tab} (pr : PrOK P tab) {Ψ : AV -> AH -> Prop}
include pr
theorem AGo.next {m m' : AM} (hs : Am.step tab sub0 m = .ok (.next m')) (h : AGo P m' Ψ) : AGo P m Ψ := by
 intro D E K base frC csC w hR hB; obtain ⟨hb, fr', cs', w', E', D', s1, s2, s3, s4, s5, s6, s7⟩ := qfE pr.ok qiP pr.ext (qfr pr.ok qiP pr.ext pr.mix) hs hR; obtain ⟨v, h', h1, h2⟩ := h D' E' K base fr' cs' w' s2 (hB.kept s5); rw [hb] at h2; exact ⟨v, h', h1, Am.Ends.trans s1 s3 s4 s5 s6 s7 h2⟩
theorem AGo.done {m : AM} {v : AV} {h : AH} (hs : Am.step tab sub0 m = .ok (.done v h)) (hv : Ψ v h) : AGo P m Ψ := by
 intro D E K base frC csC w hR hB; exact ⟨v, h, hv, qfE pr.ok qiP pr.ext (qfr pr.ok qiP pr.ext pr.mix) hs hR⟩
end
def EffR (P : Program) (tab : Tab) (ts : T AV) (h0 : AH) (o : Oper) (Θ : AV -> AH -> Prop) : Prop :=
 (∃ v h1, qaH tab ts h0 o = .ok (v, h1) /\ h0.next <= h1.next /\ Θ v h1) \/
 (∃ c f g first captured args fn body, o.op = .call c /\ c.callee = .value f /\ ev ts f = .ok (.fn (.func g) first captured) /\ evs ts c.args.toList = .ok args /\
  tab.fns.get g = some fn /\ fn.body = some body /\ AGo P { fr := AFrame.enter fn g body (first ++ args ++ captured) .normal, cs := [], h := h0 } fun v h1 => h0.next <= h1.next /\ Θ v h1)
theorem EffR.congr {P : Program} {tab : Tab} {ts ts' : T AV} {h0 : AH} {o : Oper} {Θ : AV -> AH -> Prop} (hops : ∀ x ∈ o.op.operands, ev ts x = ev ts' x) (hp : EffR P tab ts h0 o Θ) : EffR P tab ts' h0 o Θ := by
 rcases hp with ⟨v, h1, hp, hle, hΘ⟩ | ⟨c, f, g, first, captured, args, fn, body, hc, hcf, hu, hargs, hfn, hb', hgo⟩
 · exact .inl ⟨v, h1, by rw [<- qcc o hops]; exact hp, hle, hΘ⟩
 · refine .inr ⟨c, f, g, first, captured, args, fn, body, hc, hcf, ?_, ?_, hfn, hb', hgo⟩
   · rw [<- hops f (by simp [hc, Op.operands, Call.operands, hcf])]; exact hu
   · rw [<- qdG c.args.toList fun x hx => hops x (by simp [hc, Op.operands, Call.operands, hcf]; right; simpa using hx)]; exact hargs
section
variable {P : Program} {tab : Tab} (pr : PrOK P tab)
variable {D : Nat -> Prop} {E : Env} {K : KS} {base : List Frame} {frC : Frame} {csC : List Frame} {w : World}
variable {fr : AFrame} {cs : List AFrame} {h h0 : AH} {ops : Array Oper} {i : Nat} {rest : List Nat} {o : Oper}
include pr
theorem qji {Θ : AV -> AH -> Prop} (hR : Rel D E K { fr, cs, h } base frC csC w) (hB : Based K w) (a : AtOp frC ops i rest o) (hp : EffR P tab fr.tmps h0 o Θ)
   (hs : ∀ i o, h0.get i = some o -> h.get i = some o) (hd0 : ∀ i o, h0.get i = some o -> i < h0.next) (hltD : ∀ i, D i -> i < h0.next) :
   ∃ v h1, Θ v h1 /\ h0.next <= h1.next /\ ∀ fr' h2, fr.finish v = .ok fr' -> (∀ i o, h2.get i = some o -> h1.get i = some o \/ (h.get i = some o /\ h0.get i = none)) ->
     (∀ i o, h2.get i = some o -> i < h2.next \/ (h1.get i = some o /\ h1.next <= h2.next)) -> h2.next = h1.next -> Gets P h0.next (lone frC csC w) D E K { fr := fr', cs, h := h2 } base w := by
 rcases hp with ⟨v, h1, hp, hle, hΘ⟩ | ⟨c, f, g, first, captured, args, fn, body, hc, hcf, hu, hargs, hfn, hb, hgo⟩
 · refine ⟨v, h1, hΘ, hle, fun fr' h2 hf hg hd2 hnx => ?_⟩; refine qtw (qcV pr.ok hR a hp hf hs hd0 hg hd2 (fun i => i = h0.next /\ h0.next < h1.next) (fun h => ⟨rfl, h⟩) (fun i hi => ⟨hi.1, fun hd => by have := hltD i hd; omega⟩) ?_) (by simp only; omega) (fun i hi => by omega); rintro i (hi | hi)
   · have := hltD i hi; omega
   · omega
 · have ok := pr.ok; have hρ : ∀ E', Agree D E E' -> ∀ x u, ev fr.tmps x = .ok u -> frC.eval x = conc E' u := by
     intro E' he x u hx; rw [<- (hR.all E' he).2.1]; exact qej hR.wf.1 E' hx
   have hd : qd5 (.fn (.func g) first captured) args = .ok { target := .fn (.func g) captured, args := first ++ args } := rfl; have hres : ∀ E', Agree D E E' -> Deferred.ofValue (frC.eval f) (c.args.map frC.eval) = pure (qa8 E' { target := .fn (.func g) captured, args := first ++ args }) := by
     intro E' he; rw [<- qcH hd E', hρ E' he _ _ hu, <- qek (hρ E' he) _ _ hargs]; congr 1
     simp [<- Array.toList_inj]
   have hrob := qdB hres; have hnd : ∀ c', o.op ≠ .defer c' := by rw [hc]; intro c' e; cases e
   have hctx : Ctx P (lone frC csC w) frC csC w .normal (qa8 E { target := .fn (.func g) captured, args := first ++ args }) := qgD a (.inr hnd) (by simp [execOp, hc, resolve, hcf, hres E (Agree.refl _ _)]); have hinv : ∀ E', Agree D E E' -> invoke (qa8 E { target := .fn (.func g) captured, args := first ++ args }).target (qa8 E { target := .fn (.func g) captured, args := first ++ args }).args = callFunc g (qai E' (first ++ args ++ captured)).toArray := by
     intro E' he; rw [<- hrob E' he]; simp only [qa8, qhk, invoke, concL_append]; simp
   have hP := ok.fns g fn hfn; have hn : fn.name ≠ "runtime.NumGoroutine" := by simpa using ok.nng g fn hfn
   have hrun : ∀ a, (callFunc g a).run P w = .ok (.enter g a) w := by
     intro a; simp [callFunc, hP, hn, hb]
   have hstep : ∀ E', Agree D E E' -> Go.step P (lone frC csC w) = .next (lone (Frame.enter P g (qai E' (first ++ args ++ captured)).toArray .normal) (frC :: csC) w) := fun E' he =>
     hctx.enter _ _ _ (by rw [hinv E' he, hrun])
   have hargsC : ∀ E', Agree D E E' -> (qai E' (first ++ args ++ captured)).toArray = (qai E (first ++ args ++ captured)).toArray := by
     intro E' he; have h4 := hrun (qai E' (first ++ args ++ captured)).toArray; rw [<- hinv E' he, hinv E (Agree.refl _ _), hrun] at h4; simpa using h4.symm
   have hRc : Rel D E (Am.Rest E h h0 K) { fr := AFrame.enter fn g body (first ++ args ++ captured) .normal, cs := [], h := h0 } (frC :: csC) (Frame.enter P g (qai E (first ++ args ++ captured)).toArray .normal) (frC :: csC) w := by
     refine ⟨fun E' he => ⟨?_, ?_, rfl⟩, hltD, qdY _ _ _ _ _, fun f hf => by cases hf⟩
     · rw [<- hR.restEq he]; exact (hR.all E' he).1.part hs hd0
     · rw [<- hargsC E' he, qbi hP hb]
   obtain ⟨v, h1, ⟨hle, hΘ⟩, he2⟩ := hgo D E (Am.Rest E h h0 K) (frC :: csC) _ _ w hRc hB.rest; refine ⟨v, h1, hΘ, hle, fun fr' h2 hf hg hd2 hnx => ?_⟩; have hfc := qaO hf; obtain ⟨fr1, w', vC, E', D', s1, s2, s3, s4, s5, s6, s7, s8, s9, s10⟩ := he2; refine ⟨frC.finish vC, csC, w', E', D', ?_, ⟨?_, ?_, ?_⟩, s5, s6, s8.part, by simp only; omega, s10⟩
   · exact (Steps.head (hstep E (Agree.refl _ _)) s1).trans (.one (step_leave_returned s3))
   · intro E'' he'; obtain ⟨g1, g2⟩ := s4 E'' he'; have hag := s5.trans he' s6; obtain ⟨k1, k2, k3⟩ := hR.all E'' hag; refine ⟨k1.join (by rw [hR.restEq hag]; exact g1) (by rw [hR.restEq hag]; exact s8) hg (fun i o hi => (hd2 i o hi).elim id (fun h => Nat.lt_of_lt_of_le (g1.dom i o h.1) h.2)), ?_, k3⟩; rw [<- (hfc E'').1, <- g2, <- k2]
   · intro i hi; have := s7 i hi; simp only; omega
   · exact ⟨(hfc E).2.1 hR.wf.1, hR.wf.2⟩
theorem qwX {Θ : AV -> AH -> Prop} {Ψ : AV -> AH -> Prop} {k : List AItem} (hm : fr.mode = .run) (ht : fr.todo = .inRegion ops (i :: rest) :: k) (ho : ops[i]? = some o) (hw : wanted ops o fr.tmps = .ok true) (hp : EffR P tab fr.tmps h o Θ)
  (hfin : ∀ v, ∃ fr', fr.finish v = .ok fr') (hk : ∀ v h1, Θ v h1 -> ∀ fr', fr.finish v = .ok fr' -> AGo P { fr := fr', cs, h := h1 } Ψ) : AGo P { fr, cs, h } Ψ := by
 intro D E K base frC csC w hR hB; have hdom := (hR.all E (Agree.refl _ _)).1.dom; obtain ⟨v, h1, hΘ, hle, hgets⟩ := qji pr hR hB (atOp hR hm ht ho hw) hp (fun _ _ h => h) hdom (fun i hi => hR.dom i hi); obtain ⟨fr', hf⟩ := hfin v; obtain ⟨frC', csC', w', E', D', s1, s2, s3, s4, s5, s6, s7⟩ := hgets fr' h1 hf (fun _ _ h => .inl h) (fun _ _ h => .inr ⟨h, Nat.le_refl _⟩) rfl; obtain ⟨v', h', g1, g2⟩ := hk v h1 hΘ fr' hf D' E' K base frC' csC' w' s2 (hB.kept s5); refine ⟨v', h', g1, ?_⟩; have hb := qbC (qaO hf E).2.2 cs; rw [hb] at g2; exact Am.Ends.trans s1 s3 s4 s5 s6 s7 g2
end
end Go.Sy
namespace Go.Sy
open Go.Am Go.RowKit
variable [Inhabited DrP]
def EffD (P : Program) (tab : Tab) (ops : Array Oper) (nt i : Nat) (o : Oper) (s : DS) (Φ : DS -> Prop) : Prop :=
 opOk s.anc ops i o = true /\ wanted ops o s.ts = .ok true /\
 EffR P tab s.ts (qa5 s.h (s.allocs.filter fun x => !(memN x.1 (qaW s.anc o)))) o fun v h1 =>
  reread tab ops (qa5 (qa9 h1 s.h (s.allocs.filter fun x => !(memN x.1 (qaW s.anc o)))) (s.allocs.filter fun x => !(memN x.1 (qaW s.anc o)))) (s.reads.filter fun x => !(memN x.1 (qaW s.anc o))) = .ok () /\
  Φ { ts := qaU nt s.ts o v, h := qa9 h1 s.h (s.allocs.filter fun x => !(memN x.1 (qaW s.anc o))), anc := s.anc.set i (some (qaW s.anc o)), reads := s.reads.filter fun x => !(memN x.1 (qaW s.anc o)), allocs := s.allocs.filter fun x => !(memN x.1 (qaW s.anc o)) }
def TodoR (P : Program) (tab : Tab) (ops : Array Oper) (nt : Nat) (G : DS -> Prop) : Nat -> DS -> Prop
 | 0, _ => False
 | n + 1, s => ∃ s1, qbp tab ops nt 0 ops.toList s = .ok s1 /\ ((qc9 s1.anc 0 ops.toList = [] /\ G s1) \/
  ∃ c o, qc9 s1.anc 0 ops.toList = [(c, o)] /\ EffD P tab ops nt c o s1 (TodoR P tab ops nt G n))
def qpl (P : Program) (tab : Tab) (ops : Array Oper) (nt : Nat) (G : DS -> Prop) (n : Nat) (s1 : DS) : Prop :=
 (qc9 s1.anc 0 ops.toList = [] /\ G s1) \/ ∃ c o, qc9 s1.anc 0 ops.toList = [(c, o)] /\ EffD P tab ops nt c o s1 (TodoR P tab ops nt G n)
section
variable {P : Program} {tab : Tab} (pr : PrOK P tab)
variable {D : Nat -> Prop} {E : Env} {K : KS} {base : List Frame} {frC : Frame} {csC : List Frame} {w : World}
variable {ops : Array Oper} {fr0 : AFrame} {cs : List AFrame} {k : List AItem} {lo : Nat} {s : DS} {Φ : DS -> Prop} {X : Nat -> Prop} {tsR : T AV} {hR : AH} {j : Nat} {l : List Nat} {o : Oper}
open Classical in
include pr in
theorem qnX (H : DInv tab ops fr0.nt fr0.tmps lo s X) (Q : RInv ops fr0 cs k base s X D E K tsR hR (j :: l) frC csC w) (hB : Based K w) (hm : fr0.mode = .run) (ho : ops[j]? = some o) (hr : qa0 s.anc j o = true)
   (hd : EffD P tab ops fr0.nt j o s Φ) (hready : ∀ p ∈ qcz o, X p) : ∃ s2, Φ s2 /\ DInv tab ops fr0.nt fr0.tmps lo s2 (fun i => X i \/ i = j) /\ qhu P ops fr0 cs k base s2 (fun i => X i \/ i = j) D E K lo l frC csC w := by
 obtain ⟨hok, hb, hp⟩ := hd; obtain ⟨hnone, hpre⟩ := qbH hr; obtain ⟨hok1, hok2⟩ := qiH hok; have hxj : ¬ X j := fun h => by have := H.cx j h; rw [hnone] at this; cases this
 have hanX : ∀ p ∈ qaW s.anc o, X p := by
   intro p hp; rcases mem_ancOf.1 hp with h | ⟨q, hq, ap, h1, h2⟩
   · exact hready p h
   · exact H.xdn q ap (hready q hq) h1 p h2
 generalize hhid : (s.allocs.filter fun x => !(memN x.1 (qaW s.anc o))) = hid at *
 have hidm : ∀ x, x ∈ hid ↔ x ∈ s.allocs /\ x.1 ∉ qaW s.anc o := by
   intro x; rw [<- hhid, List.mem_filter]; constructor
   · rintro ⟨h1, h2⟩; refine ⟨h1, fun hm => ?_⟩; rw [memN_iff.2 hm] at h2; cases h2
   · rintro ⟨h1, h2⟩; refine ⟨h1, ?_⟩
     cases hb : memN x.1 (qaW s.anc o) with
     | true => exact absurd (memN_iff.1 hb) h2
     | false => rfl
 have hidj : ∀ x ∈ hid, x.1 ≠ j := by
   intro x hx e; have := (H.al x ((hidm x).1 hx).1).2.1; rw [e, hnone] at this; cases this
 have hl : ∀ t ∈ qhr ops o, tsR.get t = s.ts.get t := by
   intro t ht; by_cases hw : ∃ jj oj, ops[jj]? = some oj /\ oj.dst = some t /\ (s.anc.get jj).isSome
   · obtain ⟨jj, oj, g1, g2, g3⟩ := hw; exact Q.tr1 jj oj t (hready jj (hok1 t ht jj oj g1 g2 g3)) g1 g2
   · rw [Q.tr0 t (fun jj oj hx hoj hd => hw ⟨jj, oj, hoj, hd, H.cx jj hx⟩), H.tsC t (fun jj oj hc hoj hd => hw ⟨jj, oj, hoj, hd, hc⟩)]
 obtain ⟨hops, hwant⟩ := qfv hl; have a := atOp Q.rel hm rfl ho (by rw [hwant]; exact hb); obtain ⟨v, h1, ⟨hrr, hΦ⟩, hle, hgets0⟩ := qji pr Q.rel hB a (h0 := qa5 s.h hid) (hp.congr (fun x hx => (hops x hx).symm))
   (by
     intro i ob h; rw [qar] at h; split at h
     · cases h
     · rename_i hne; refine (Q.hr i ob).2 ⟨h, fun x hx e => ?_⟩; by_cases hc : x.1 ∈ qaW s.anc o
       · exact hanX _ hc
       · exact absurd ⟨x, (hidm x).2 ⟨hx, hc⟩, e⟩ hne)
   (by
     intro i ob h; rw [qar] at h; split at h
     · cases h
     · rw [qat]; exact H.hd i ob h)
   (by intro i hi; rw [qat, <- Q.hn]; exact Q.rel.dom i hi)
 rw [qat] at hle; have hfin := qel (fr0 := fr0) (tsR := tsR) (l := l) (k := k) ho v; let h2 := qa9 h1 s.h hid
 let pd := hid.filter fun x => decide (¬ (X x.1 \/ x.1 = j))
 let hR2 := qa5 h2 pd
 have hg2 : ∀ i, h2.get i = if ∃ x ∈ hid, x.2 = i then s.h.get i else h1.get i := fun i => qbe _ _ _ _
 have hn2 : h2.next = h1.next := qbK _ _ _; have hchar : ∀ i ob, hR2.get i = some ob ↔ h2.get i = some ob /\ ∀ x ∈ hid, x.2 = i -> X x.1 \/ x.1 = j := by
   intro i ob; simp only [hR2, qar]; constructor
   · intro h; split at h
     · cases h
     · rename_i hne; refine ⟨h, fun x hx e => ?_⟩; by_cases hc : X x.1 \/ x.1 = j
       · exact hc
       · exact absurd ⟨x, by simp only [pd, List.mem_filter]; exact ⟨hx, by simpa using hc⟩, e⟩ hne
   · rintro ⟨h1, h2⟩; rw [if_neg]
     · exact h1
     · rintro ⟨x, hx, e⟩; simp only [pd, List.mem_filter] at hx; have := h2 x hx.1 e; exact absurd this (by simpa using hx.2)
 have hR2n : hR2.next = h1.next := (qat _ _).trans hn2; have hgets := hgets0 _ hR2 hfin
   (by
     intro i ob h; obtain ⟨h3, h4⟩ := (hchar i ob).1 h; rw [hg2] at h3; split at h3
     · rename_i hex; right; refine ⟨(Q.hr i ob).2 ⟨h3, fun x hx e => ?_⟩, by rw [qar, if_pos hex]⟩; obtain ⟨y, hy, e'⟩ := hex; have : x = y := H.alu x hx y ((hidm y).1 hy).1 (e.trans e'.symm); subst this; exact (h4 x hy e').resolve_right (hidj x hy)
     · exact .inl h3)
   (by
     intro i ob h; obtain ⟨h3, _⟩ := (hchar i ob).1 h; rw [hg2] at h3; rw [hR2n]; split at h3
     · have := H.hd i ob h3; left; omega
     · exact .inr ⟨h3, Nat.le_refl _⟩)
   hR2n
 obtain ⟨frC', csC', w', E1, D1, s1, rel1, ag1, dd1, kp1, _, new1⟩ := hgets; rw [qat] at new1; have hdom2 : ∀ i ob, h2.get i = some ob -> i < h2.next := by
   intro i ob h; rw [hn2]; rw [hg2] at h; split at h
   · have := H.hd i ob h; omega
   · rename_i hne; have h3 := (hchar i ob).2 ⟨by rw [hg2, if_neg hne]; exact h, fun x hx e => absurd ⟨x, hx, e⟩ hne⟩; have := (rel1.all E1 (Agree.refl _ _)).1.dom i ob h3; rw [<- hR2n]; exact this
 refine ⟨_, hΦ, ?_, qaU fr0.nt tsR o v, hR2, frC', csC', w', D1, E1, s1, ⟨rel1, hchar, hR2n.trans hn2.symm, ?_, ?_, ?_⟩, ag1, dd1, kp1, ?_⟩
 · refine H.eff ho hr hok hanX rfl rfl (by simp only; rw [qbK]; exact hle) (fun x hx => ((hidm x).1 hx).1) (fun x hx hn => (hidm x).2 ⟨hx, hn⟩) ?_ hdom2 ?_
   · intro x hx; show h2.get x.2 = s.h.get x.2
     rw [hg2, if_pos ⟨x, hx, rfl⟩]
   · intro j' oj tj vj hmr hjan hoj hce hca; have hmf : (j', tj, vj) ∈ s.reads.filter (fun x => !(memN x.1 (qaW s.anc o))) := by
       rw [List.mem_filter]; refine ⟨hmr, ?_⟩
       cases hb : memN j' (qaW s.anc o) with
       | true => exact absurd (memN_iff.1 hb) hjan
       | false => rfl
     refine ⟨hmf, ?_⟩; obtain ⟨oj', hr', g1, g2⟩ := qjR _ hrr _ _ _ hmf; rw [hoj] at g1
     cases g1; have hsame := qdj ⟨hce, hca⟩ g2; subst hsame; refine ⟨_, g2, ?_⟩; intro b ob hg; rw [qar] at hg; split at hg
     · cases hg
     · rename_i hne; exact ⟨by rw [qat]; exact hdom2 b ob hg, hg, fun x hx e => hne ⟨x, hx, e⟩⟩
 · intro i oi t hi hoi hd; show (qaU fr0.nt tsR o v).get t = (qaU fr0.nt s.ts o v).get t
   rw [qaN, qaN]; by_cases hc : o.dst = some t /\ t < fr0.nt
   · rw [if_pos hc, if_pos hc]
   · rw [if_neg hc, if_neg hc]; rcases hi with hi | rfl
     · exact Q.tr1 i oi t hi hoi hd
     · rw [ho] at hoi
       cases hoi; have hge : fr0.nt <= t := Nat.le_of_not_lt (fun hlt => hc ⟨hd, hlt⟩); rw [H.tsw t hge]; exact Q.rel.wf.1 t hge
 · intro t ht; rw [qaN, if_neg (fun h => ht j o (.inr rfl) ho h.1)]; exact Q.tr0 t (fun i oi hi hoi => ht i oi (.inl hi) hoi)
 · intro x hx hnx hD; have hxm := ((hidm x).1 hx).1; rcases new1 x.2 hD with hd | hd
   · exact Q.dp x hxm (fun h => hnx (.inl h)) hd
   · have := (H.al x hxm).1; omega
 · intro i hi; rcases new1 i hi with h | h
   · exact .inl h
   · exact .inr (Nat.le_trans H.nx h)
end
section
variable {P : Program} {tab : Tab} (pr : PrOK P tab)
variable {K : KS} {base : List Frame}
variable {ops : Array Oper} {fr0 : AFrame} {cs : List AFrame} {k : List AItem} {lo : Nat}
def FinR (P : Program) (fr0 : AFrame) (cs : List AFrame) (k : List AItem) (base : List Frame) (K : KS) (lo : Nat) (G : DS -> Prop) (D : Nat -> Prop) (E : Env) (frC : Frame) (csC : List Frame) (w : World) : Prop :=
 ∃ sF frC' csC' w' D' E', G sF /\ Steps P (lone frC csC w) (lone frC' csC' w') /\ Rel D' E' K { fr := { fr0 with tmps := sF.ts, todo := k }, cs, h := sF.h } base frC' csC' w' /\ Agree D E E' /\ (∀ i, D i -> D' i) /\ Kept K w w' /\ (∀ i, D' i -> D i \/ lo <= i) /\ lo <= sF.h.next
include pr in
theorem midR (hm : fr0.mode = .run) (hlt : qjP 0 ops.toList = true) : ∀ (fuel t : Nat) (listed : Array Bool) (s : DS) (G : DS -> Prop) (n : Nat) (D : Nat -> Prop) (E : Env) (tsR : T AV) (hR : AH) (frC : Frame) (csC : List Frame) (w : World),
  listed.size = ops.size -> unl ops.size listed <= fuel -> qpl P tab ops fr0.nt G n s -> DInv tab ops fr0.nt fr0.tmps lo s (Xof listed) ->
  RInv ops fr0 cs k base s (Xof listed) D E K tsR hR (Region.linearise.go .any ops fuel t listed []) frC csC w -> Based K w -> FinR P fr0 cs k base K lo G D E frC csC w := by
 have hend : ∀ (listed : Array Bool) (s : DS) (G : DS -> Prop) (n : Nat) (D : Nat -> Prop) (E : Env) (tsR : T AV) (hR : AH) (frC : Frame) (csC : List Frame) (w : World), (∀ j, j < ops.size -> Xof listed j) ->
    qpl P tab ops fr0.nt G n s -> DInv tab ops fr0.nt fr0.tmps lo s (Xof listed) -> RInv ops fr0 cs k base s (Xof listed) D E K tsR hR [] frC csC w -> FinR P fr0 cs k base K lo G D E frC csC w := by
  intro listed s G n D E tsR hR frC csC w hall htodo H Q; rcases htodo with ⟨_, hG⟩ | ⟨c, o, hc, _⟩
  · have hts : ∀ t, tsR.get t = s.ts.get t := by
      intro t; by_cases hw : ∃ (j : Nat) (oj : Oper), ops[j]? = some oj /\ oj.dst = some t
      · obtain ⟨j, oj, h1, h2⟩ := hw; exact Q.tr1 j oj t (hall j (Array.getElem?_eq_some_iff.1 h1).1) h1 h2
      · rw [Q.tr0 t (fun j oj _ h1 h2 => hw ⟨j, oj, h1, h2⟩), H.tsC t (fun j oj _ h1 h2 => hw ⟨j, oj, h1, h2⟩)]
    have hst : ∀ E', Go.step P (lone (qak E' { fr0 with tmps := tsR, todo := .inRegion ops [] :: k }) csC w) = .next (lone (qak E' { fr0 with tmps := tsR, todo := k }) csC w) :=
      fun E' => step_lone_go (by simp [stepG, stepG.exec, qak, hm, qbl, qaV])
    have hconc : ∀ E', qak E' { fr0 with tmps := s.ts, todo := k } = qak E' { fr0 with tmps := tsR, todo := k } := by
      intro E'; have : qaG E' s.ts fr0.nt = qaG E' tsR fr0.nt := by
        unfold qaG qpb; simp only [hts]
      simp only [qak, this]
    have hfr := (Q.rel.all E (Agree.refl _ _)).2.1; simp only at hfr; refine ⟨s, qak E { fr0 with tmps := tsR, todo := k }, csC, w, D, E, hG, .one (by rw [<- hfr]; exact hst E), ⟨fun E' he => ?_, fun i hi => ?_, ?_, Q.rel.wf.2⟩, Agree.refl _ _, fun _ h => h, Kept.refl K w, fun i hi => .inl hi, H.nx⟩
    · obtain ⟨g1, g2, g3⟩ := Q.rel.all E' he; refine ⟨g1.same (fun i ob h => (Q.hr i ob).2 ⟨h, fun x hx _ => ?_⟩) (by simp only; rw [Q.hn]; exact Nat.le_refl _), ?_, g3⟩
      · obtain ⟨o, ho⟩ := H.op _ (H.al x hx).2.1; exact hall _ (Array.getElem?_eq_some_iff.1 ho).1
      · simp only; rw [hconc E']; have h1 := hst E'; simp only at g2; rw [g2, <- hfr, hst E] at h1; exact (qdg (by simpa using h1)).1.symm
    · have := Q.rel.dom i hi; simp only at this ⊢; rw [Q.hn] at this; exact this
    · intro t ht; have := Q.rel.wf.1 t ht; simp only at this ⊢; rw [<- hts t]; exact this
  · have hcm : (c, o) ∈ qc9 s.anc 0 ops.toList := by rw [hc]; exact List.mem_cons_self
    obtain ⟨j', h1, h2, h3⟩ := qgu _ _ _ _ _ hcm; have hlt' : c < ops.size := by
      have := (List.getElem?_eq_some_iff.1 h2).1; simp at this; omega
    have := H.cx c (hall c hlt'); rw [(qbH h3).1] at this
    cases this
 intro fuel; induction fuel with
 | zero =>
  intro t listed s G n D E tsR hR frC csC w hsz hu htodo H Q hB; exact hend listed s G n D E tsR hR frC csC w (qmm (by omega)) htodo H (by simpa [Region.linearise.go] using Q)
 | succ fuel ih =>
  intro t listed s G n D E tsR hR frC csC w hsz hu htodo H Q hB; simp only [Region.linearise.go] at Q; change RInv ops fr0 cs k base s (Xof listed) D E K tsR hR (match (Region.ready .any ops listed)[t % (Region.ready .any ops listed).length]? with
    | some i => Region.linearise.go .any ops fuel (t / (Region.ready .any ops listed).length) (listed.setIfInBounds i true) [i]
    | none => [].reverse) frC csC w at Q
  have hget : ∀ j, j < ops.size -> (listed.getD j true = false ↔ ¬ Xof listed j) := by
    intro j hj; unfold Xof; have : j < listed.size := by omega
    simp [Array.getD, this]
  cases hi : (Region.ready .any ops listed)[t % (Region.ready .any ops listed).length]? with
  | none =>
    rw [hi] at Q; have hnil : Region.ready .any ops listed = [] := by
      cases hr : Region.ready .any ops listed with
      | nil => rfl
      | cons x xs =>
        rw [hr] at hi; have hlt : t % (x :: xs).length < (x :: xs).length := Nat.mod_lt _ (by simp); rw [List.getElem?_eq_none_iff] at hi; omega
    have hall : ∀ j, j < ops.size -> Xof listed j := by
      intro j; induction j using Nat.strongRecOn with
      | _ j ihj =>
        intro hj; by_cases hx : Xof listed j
        · exact hx
        · exfalso; have hm' : j ∈ Region.ready .any ops listed := by
           rw [mem_ready]; refine ⟨(hget j hj).2 hx, ops[j], Array.getElem?_eq_getElem hj, ?_⟩; intro e he hb; have hp : e.on ∈ qcz ops[j] := List.mem_map.2 ⟨e, List.mem_filter.2 ⟨by simpa using he, hb⟩, rfl⟩; have hlt' := qmc ops.toList 0 hlt j ops[j] (by simp [hj]) e.on hp; exact ihj e.on (by omega) (by omega)
          rw [hnil] at hm'
          cases hm'
    exact hend listed s G n D E tsR hR frC csC w hall htodo H Q
  | some i =>
    rw [hi] at Q; simp only at Q; rw [linearise_go_acc, List.reverse_singleton, List.singleton_append] at Q; obtain ⟨hl1, o, ho, hdeps⟩ := mem_ready.1 (List.mem_of_getElem? hi); have hin : i < ops.size := (Array.getElem?_eq_some_iff.1 ho).1; have hx := (hget i hin).1 hl1; have hready : ∀ p ∈ qcz o, Xof listed p := by
      intro p hp; obtain ⟨e, he, rfl⟩ := List.mem_map.1 hp; obtain ⟨he1, he2⟩ := List.mem_filter.1 he; exact hdeps e (by simpa using he1) he2
    have hsz' : (listed.setIfInBounds i true).size = ops.size := by simp [hsz]
    have hu' : unl ops.size (listed.setIfInBounds i true) <= fuel := by
      have := qpd hin (by omega) hx; omega
    have hX' : Xof (listed.setIfInBounds i true) = fun j => Xof listed j \/ j = i := qh3 (by omega)
    have hfin : ∀ (s' : DS) (n' : Nat), qpl P tab ops fr0.nt G n' s' -> DInv tab ops fr0.nt fr0.tmps lo s' (fun j => Xof listed j \/ j = i) ->
        qhu P ops fr0 cs k base s' (fun j => Xof listed j \/ j = i) D E K lo (Region.linearise.go .any ops fuel (t / (Region.ready .any ops listed).length) (listed.setIfInBounds i true) []) frC csC w -> FinR P fr0 cs k base K lo G D E frC csC w := by
      intro s' n' htd H' hc; obtain ⟨tsR', hR', frC', csC', w', D', E', c1, c2, c3, c4, c5, c6⟩ := hc; obtain ⟨sF, frF, cSF, wF, DF, EF, f0, f1, f2, f3, f4, f5, f6, f7⟩ := ih _ (listed.setIfInBounds i true) s' G n' D' E' tsR' hR' frC' csC' w' hsz' hu' htd (by rw [hX']; exact H') (by rw [hX']; exact c2) (hB.kept c5); exact ⟨sF, frF, cSF, wF, DF, EF, f0, c1.trans f1, f2, c3.trans f3 c4, fun x hx => f4 x (c4 x hx), c5.trans f5, fun x hx => (f6 x hx).elim (c6 x) .inr, f7⟩
    by_cases hC : (s.anc.get i).isSome = true
    · exact hfin s n htodo (H.come hC ho hready) (qjl pr.ok H Q hm ho hC hx hready)
    · have hr : qa0 s.anc i o = true := by
        unfold qa0; simp only [Bool.and_eq_true, List.all_eq_true]; exact ⟨by simpa using hC, fun p hp => H.cx p (hready p hp)⟩
      have hcm : (i, o) ∈ qc9 s.anc 0 ops.toList := by
        have := qlp ops.toList 0 s.anc i o (by simpa using ho) (by simpa using hr); simpa using this
      rcases htodo with ⟨hc, _⟩ | ⟨c, o', hc, hd⟩
      · rw [hc] at hcm; cases hcm
      · rw [hc] at hcm; rcases List.mem_cons.1 hcm with e | hcm
        · cases e; obtain ⟨s2, hloop, H2, tsR', hR', frC', csC', w', D', E', c1, c2, c3, c4, c5, c6⟩ := qnX pr H Q hB hm ho hr hd hready
          cases n with
          | zero => exact hloop.elim
          | succ n =>
           obtain ⟨s3, hpass, htd3⟩ := hloop; have hpl : ∀ j o, ops.toList[j]? = some o -> ops[0 + j]? = some o := by
            intro j o hj; simpa using hj
           obtain ⟨hR3, Q3⟩ := qe8 ops.toList 0 s2 s3 hR' hpl hpass H2 c2; exact hfin s3 n htd3 (qdc ops.toList 0 s2 s3 hpl hpass H2) ⟨tsR', hR3, frC', csC', w', D', E', c1, Q3, c3, c4, c5, c6⟩
        · cases hcm
include pr in
theorem qxh {Ψ : AV -> AH -> Prop} {h : AH} {id : Nat} {n : Nat} (hm : fr0.mode = .run) (ht : fr0.todo = .code (.region id ops true) :: k) (hlt : qjP 0 ops.toList = true)
  (hd : TodoR P tab ops fr0.nt (fun sF => AGo P { fr := { fr0 with tmps := sF.ts, todo := k }, cs, h := sF.h } Ψ) n { ts := fr0.tmps, h, anc := .e, reads := [], allocs := [] }) : AGo P { fr := fr0, cs, h } Ψ := by
 intro D E K base frC csC w hR hB; obtain ⟨n, rfl⟩ : ∃ n', n = n' + 1 := by
  cases n with
  | zero => exact hd.elim
  | succ n => exact ⟨n, rfl⟩
 obtain ⟨s1, hpass, htodo⟩ := hd; let s0 : DS := { ts := fr0.tmps, h, anc := .e, reads := [], allocs := [] }
 let ord := w.tape w.drawn (.order frC.fn id)
 let l := Go.Region.linearise.go .any ops ops.size ord (Array.replicate ops.size false) []
 have hstep : ∀ E', Agree D E E' -> Go.step P (lone frC csC w) = .next (lone (qak E' { fr0 with tmps := fr0.tmps, todo := .inRegion ops l :: k }) csC w.drew) := by
  intro E' he; have e1 := (hR.all E' he).2.1; simp only at e1; refine step_lone_go ?_; have hmC : frC.mode = .run := by rw [<- e1]; simp [qak, hm, qbl]
  have htC : frC.todo = .code (.region id ops true) :: k.map (qaV E') := by rw [<- e1]; simp [qak, ht, qaV]
  have hrun : (choose (.order frC.fn id)).run P w = .ok ord w.drew := by
    simp only [choose, Sem.run, Question.forced, Bool.false_eq_true, if_false, Question.cut]; rfl
  have hsch : Go.Region.schedule (P.follows .mixedOrders) ops ord = l := by
    simp only [Go.Region.schedule, pr.mix, Bool.true_or, if_true]; rfl
  have hgoal : qak E' { fr0 with tmps := fr0.tmps, todo := .inRegion ops l :: k } = { frC with todo := .inRegion ops l :: k.map (qaV E') } := by
    rw [<- e1]; rfl
  rw [hgoal]; unfold stepG stepG.exec; simp only [hmC, htC, Bool.not_true, Bool.false_eq_true, if_false, hrun, hsch, GStep.bare_go]
 have hdom := (hR.all E (Agree.refl _ _)).1.dom; have H0 : DInv tab ops fr0.nt fr0.tmps h.next s0 (Xof (Array.replicate ops.size false)) := by
  have hnone : ∀ j, s0.anc.get j = none := fun _ => rfl
  refine ⟨fun j hj => absurd hj (qdQ _ _), fun j a hj => absurd hj (qdQ _ _), ?_, ?_, ?_, fun _ _ => rfl, ?_, fun x hx => (by cases hx), Nat.le_refl _, hR.wf.1, fun x hx => (by cases hx), hdom⟩
  · intro j hj; rw [hnone] at hj; cases hj
  · intro j a o hj; rw [hnone] at hj; cases hj
  · intro i j oi oj d hi; rw [hnone] at hi; cases hi
  · intro j hj; rw [hnone] at hj; cases hj
 have Q0 : RInv ops fr0 cs k base s0 (Xof (Array.replicate ops.size false)) D E K fr0.tmps h l (qak E { fr0 with tmps := fr0.tmps, todo := .inRegion ops l :: k }) csC w.drew := by
  refine ⟨⟨fun E' he => ?_, hR.dom, hR.wf⟩, fun i ob => ⟨fun h => ⟨h, fun x hx => (by cases hx)⟩, fun h => h.1⟩, rfl, fun j o t hx => absurd hx (qdQ _ _), fun _ _ => rfl, fun x hx => by cases hx⟩; obtain ⟨g1, g2, g3⟩ := hR.all E' he; refine ⟨g1.drew, ?_, g3⟩; have h1 := hstep E' he; rw [hstep E (Agree.refl _ _)] at h1; exact (qdg (by simpa using h1)).1.symm
 have htodo : qpl P tab ops fr0.nt (fun sF => AGo P { fr := { fr0 with tmps := sF.ts, todo := k }, cs, h := sF.h } Ψ) n s1 := htodo; have hpl : ∀ j o, ops.toList[j]? = some o -> ops[0 + j]? = some o := by
  intro j o hj; simpa using hj
 obtain ⟨hR1, Q1⟩ := qe8 ops.toList 0 s0 s1 h hpl hpass H0 Q0; have H1 := qdc ops.toList 0 s0 s1 hpl hpass H0; obtain ⟨sF, frC', csC', w', D', E', f0, f1, f2, f3, f4, f5, f6, f7⟩ := midR pr hm hlt ops.size ord (Array.replicate ops.size false) s1 _ n D E fr0.tmps hR1 _ csC w.drew (by simp)
  (by unfold unl; have := List.length_filter_le (fun i => !(Array.replicate ops.size false).getD i false) (List.range ops.size); simpa using this) htodo H1 Q1 hB
 obtain ⟨v, h', g1, g2⟩ := f0 D' E' K base frC' csC' w' f2 (Based.kept (w := w.drew) hB f5); have hb : bot { fr0 with tmps := sF.ts, todo := k } cs = bot fr0 cs := qbC (fr := fr0) (fr' := { fr0 with tmps := sF.ts, todo := k }) rfl cs; simp only at g2; rw [hb] at g2; exact ⟨v, h', g1, Am.Ends.trans (Steps.head (hstep E (Agree.refl _ _)) f1) f3 f4 ((Kept.drew K w).trans f5) f7 f6 g2⟩
end
end Go.Sy
namespace Go.Sy
open Go.Am Go.RowKit
universe u v
variable [Inhabited DrP]
structure BI where
 β : Nat
 len : Nat
 sz : Nat
 cap : Option Cap
structure Cx where
 ρ : Nat -> Option BI
 Fz : Nat -> Option AO
def qi5 (cap : Cap) (off n sz : Nat) (ext : Bool) : Prop :=
 match cap with
 | .lit m => n <= m
 | .tail k => ext = true /\ off = k * sz
def CellsAt (Fz : Nat -> Option AO) (b : Nat) (cs : List AV) (e : TypeId) (sz : Nat) (ext : Bool) (bk : BK) : Prop :=
 ∃ sz0 ext0, Fz b = some (.cells cs e sz0 ext0 bk) /\ (ext = true -> sz0 = sz /\ ext0 = true)
theorem CellsAt.of {Fz : Nat -> Option AO} {b : Nat} {cs : List AV} {e : TypeId} {sz : Nat} {ext : Bool} {bk : BK} (h : Fz b = some (.cells cs e sz ext bk)) : CellsAt Fz b cs e sz ext bk := ⟨sz, ext, h, fun h => ⟨rfl, h⟩⟩
theorem CellsAt.mono {Fz Fz' : Nat -> Option AO} (hf : ∀ i o, Fz i = some o -> Fz' i = some o) {b : Nat} {cs : List AV} {e : TypeId} {sz : Nat} {ext : Bool} {bk : BK} (h : CellsAt Fz b cs e sz ext bk) : CellsAt Fz' b cs e sz ext bk := by
 obtain ⟨s, x, h1, h2⟩ := h; exact ⟨s, x, hf _ _ h1, h2⟩
inductive SimP (Fz : Nat -> Option AO) : SV -> AV -> Prop
 | bool (b : Bool) : SimP Fz (.bool b) (.bool b)
 | int (k : IntKind) (n : Int) : SimP Fz (.int k n) (.int k n)
 | str (s : List UInt8) : SimP Fz (.str s) (.str s)
 | nilp : SimP Fz .nilp .nilp
 | wp (a : Addr) : SimP Fz (.wp a) (.raw (.pointer (some a)))
 | nils : SimP Fz .nils .nils
 | nilm : SimP Fz .nilm .nilm
 | nilf : SimP Fz .nilf .nilf
 | any (v : AV) : SimP Fz .any v
 | lst0 {X : Type} {L : List X} {enc : X -> List SV} {v : AV} (h0 : L.length = 0) (hv : v = .nils \/ (∃ b off l n k, v = .emp b off l n k) \/ ∃ a c, v = .raw (.slice a 0 c)) : SimP Fz (.lst X L enc) v
 | lst {X : Type} {L : List X} {enc : X -> List SV} (b off : Nat) (cap : Cap) (cs : List AV) (e : TypeId) (sz : Nat) (ext : Bool) (bk : BK) (u : Nat -> Nat -> AV)
  (hb : CellsAt Fz b cs e sz ext bk) (hs : 0 < sz) (hl : off + L.length * sz <= cs.length) (hn : ∀ (i : Nat) x, L[i]? = some x -> (enc x).length = sz) (hc : qi5 cap off L.length sz ext)
  (h1 : ∀ (i : Nat) x (j : Nat) v, L[i]? = some x -> (enc x)[j]? = some v -> cs[off + i * sz + j]? = some (u i j)) (h2 : ∀ (i : Nat) x (j : Nat) v, L[i]? = some x -> (enc x)[j]? = some v -> SimP Fz v (u i j)) : SimP Fz (.lst X L enc) (.sl b off L.length cap)
 | rptr {cs : List SV} {off : Nat} (b base : Nat) (ca : List AV) (e : TypeId) (sz : Nat) (ext : Bool) (bk : BK) (u : Nat -> AV) (hb : Fz b = some (.cells ca e sz ext bk)) (hl : base + cs.length <= ca.length)
  (h1 : ∀ (j : Nat) v, cs[j]? = some v -> ca[base + j]? = some (u j)) (h2 : ∀ (j : Nat) v, cs[j]? = some v -> SimP Fz v (u j)) : SimP Fz (.rptr cs off) (.ptr b (base + off))
 | fn {f : FuncId} {xs ys : List SV} {us vs : List AV} (h1 : xs.length = us.length) (h2 : ys.length = vs.length) (h3 : ∀ (i : Nat) x u, xs[i]? = some x -> us[i]? = some u -> SimP Fz x u) (h4 : ∀ (i : Nat) x u, ys[i]? = some x -> vs[i]? = some u -> SimP Fz x u) : SimP Fz (.fn f xs ys) (.fn (.func f) us vs)
 | agg {cs : List SV} {vs : List AV} (h1 : cs.length = vs.length) (h2 : ∀ (i : Nat) c v, cs[i]? = some c -> vs[i]? = some v -> SimP Fz c v) : SimP Fz (.agg cs) (.agg vs)
 | tup {cs : List SV} {vs : List AV} (h1 : cs.length = vs.length) (h2 : ∀ (i : Nat) c v, cs[i]? = some c -> vs[i]? = some v -> SimP Fz c v) : SimP Fz (.tup cs) (.tup vs)
inductive SimV (C : Cx) : SV -> AV -> Prop
 | pure {s : SV} {v : AV} (h : SimP C.Fz s v) : SimV C s v
 | ptr {b off : Nat} {I : BI} (h : C.ρ b = some I) : SimV C (.ptr b off) (.ptr I.β off)
 | eptr {b i off : Nat} {I : BI} (h : C.ρ b = some I) (hc : I.cap.isSome) : SimV C (.eptr b i off) (.ptr I.β (i * I.sz + off))
 | own0 {b : Nat} {I : BI} (h : C.ρ b = some I) (hc : I.cap = none) : SimV C (.own b) .nils
 | own {b : Nat} {I : BI} {c : Cap} (h : C.ρ b = some I) (hc : I.cap = some c) : SimV C (.own b) (.sl I.β 0 I.len c)
 | sl {b off n c : Nat} {I : BI} (h : C.ρ b = some I) : SimV C (.sl b off n c) (.sl I.β off n (.lit c))
 | fn {f : FuncId} {xs ys : List SV} {us vs : List AV} (h1 : xs.length = us.length) (h2 : ys.length = vs.length) (h3 : ∀ (i : Nat) x u, xs[i]? = some x -> us[i]? = some u -> SimV C x u) (h4 : ∀ (i : Nat) x u, ys[i]? = some x -> vs[i]? = some u -> SimV C x u) : SimV C (.fn f xs ys) (.fn (.func f) us vs)
 | agg {cs : List SV} {vs : List AV} (h1 : cs.length = vs.length) (h2 : ∀ (i : Nat) c v, cs[i]? = some c -> vs[i]? = some v -> SimV C c v) : SimV C (.agg cs) (.agg vs)
 | tup {cs : List SV} {vs : List AV} (h1 : cs.length = vs.length) (h2 : ∀ (i : Nat) c v, cs[i]? = some c -> vs[i]? = some v -> SimV C c v) : SimV C (.tup cs) (.tup vs)
theorem qa4 {b c : Nat} (h : ¬ b = c) : Nat.beq b c = false := Bool.eq_false_iff.2 fun e => h (Nat.eq_of_beq_eq_true e)
def SimL (C : Cx) (l : List SV) (m : List AV) : Prop := l.length = m.length /\ ∀ (i : Nat) s v, l[i]? = some s -> m[i]? = some v -> SimV C s v
theorem SimL.nil {C : Cx} : SimL C [] [] := ⟨rfl, fun i s v h => by simp at h⟩
theorem SimL.cons {C : Cx} {s : SV} {v : AV} {l : List SV} {m : List AV} (h : SimV C s v) (t : SimL C l m) : SimL C (s :: l) (v :: m) := by
 refine ⟨by simp [t.1], fun i a b ha hb => ?_⟩
 cases i with
 | zero => simp at ha hb; subst ha; subst hb; exact h
 | succ i => exact t.2 i a b (by simpa using ha) (by simpa using hb)
theorem SimL.head {C : Cx} {s : SV} {v : AV} {l : List SV} {m : List AV} (h : SimL C (s :: l) (v :: m)) : SimV C s v /\ SimL C l m :=
 ⟨h.2 0 s v rfl rfl, by simpa using h.1, fun i a b ha hb => h.2 (i + 1) a b (by simpa using ha) (by simpa using hb)⟩
theorem SimL.append {C : Cx} {l l' : List SV} {m m' : List AV} (h : SimL C l m) (h' : SimL C l' m') : SimL C (l ++ l') (m ++ m') := by
 refine ⟨by simp [h.1, h'.1], fun i a b ha hb => ?_⟩; by_cases hi : i < l.length
 · rw [List.getElem?_append_left hi] at ha; rw [List.getElem?_append_left (by rw [<- h.1]; exact hi)] at hb; exact h.2 i a b ha hb
 · rw [List.getElem?_append_right (by omega)] at ha; rw [List.getElem?_append_right (by rw [<- h.1]; omega), <- h.1] at hb; exact h'.2 _ a b ha hb
theorem SimL.take {C : Cx} {l : List SV} {m : List AV} (h : SimL C l m) (n : Nat) : SimL C (l.take n) (m.take n) := by
 refine ⟨by simp [h.1], fun i a b ha hb => ?_⟩; rw [List.getElem?_take] at ha hb; split at ha
 · rename_i hi; rw [if_pos hi] at hb; exact h.2 i a b ha hb
 · cases ha
theorem SimL.drop {C : Cx} {l : List SV} {m : List AV} (h : SimL C l m) (n : Nat) : SimL C (l.drop n) (m.drop n) := by
 refine ⟨by simp [h.1], fun i a b ha hb => ?_⟩; rw [List.getElem?_drop] at ha hb; exact h.2 _ a b ha hb
theorem SimP.mono {Fz Fz' : Nat -> Option AO} (hf : ∀ i o, Fz i = some o -> Fz' i = some o) {s : SV} {v : AV} (h : SimP Fz s v) : SimP Fz' s v := by
 induction h with
 | bool b => exact .bool b
 | int k n => exact .int k n
 | str s => exact .str s
 | nilp => exact .nilp
 | wp a => exact .wp a
 | nils => exact .nils
 | nilm => exact .nilm
 | nilf => exact .nilf
 | any v => exact .any v
 | lst0 h0 hv => exact .lst0 h0 hv
 | lst b off cap cs e sz ext bk u hb hs hl hn hc h1 _ ih => exact .lst b off cap cs e sz ext bk u (hb.mono hf) hs hl hn hc h1 ih
 | rptr b base ca e sz ext bk u hb hl h1 _ ih => exact .rptr b base ca e sz ext bk u (hf _ _ hb) hl h1 ih
 | fn h1 h2 _ _ ih3 ih4 => exact .fn h1 h2 ih3 ih4
 | agg h1 _ ih => exact .agg h1 ih
 | tup h1 _ ih => exact .tup h1 ih
theorem qe3 (e : Ev) (l : List SV) : zz34 e l = l.map (SV.on e) := by
 induction l with
 | nil => simp [zz34]
 | cons a l ih => simp [zz34, ih]
theorem SimP.on {Fz : Nat -> Option AO} {s : SV} {v : AV} (h : SimP Fz s v) (e : Ev) : SimP Fz (s.on e) v := by
 induction h with
 | bool b => simp only [SV.on]; exact .bool b
 | int k n => simp only [SV.on]; exact .int k n
 | str s => simp only [SV.on]; exact .str s
 | nilp => simp only [SV.on]; exact .nilp
 | wp a => simp only [SV.on]; exact .wp a
 | nils => simp only [SV.on]; exact .nils
 | nilm => simp only [SV.on]; exact .nilm
 | nilf => simp only [SV.on]; exact .nilf
 | any v => simp only [SV.on]; exact .any v
 | lst0 h0 hv => simp only [SV.on]; exact .lst0 h0 hv
 | lst b off cap cs e sz ext bk u hb hs hl hn hc h1 h2 _ => simp only [SV.on]; exact .lst b off cap cs e sz ext bk u hb hs hl hn hc h1 h2
 | rptr b base ca e sz ext bk u hb hl h1 h2 _ => simp only [SV.on]; exact .rptr b base ca e sz ext bk u hb hl h1 h2
 | fn h1 h2 _ _ ih3 ih4 =>
  simp only [SV.on, qe3]; refine .fn (by simpa using h1) (by simpa using h2) (fun i x u hx hu => ?_) (fun i x u hx hu => ?_)
  · rw [List.getElem?_map] at hx; obtain ⟨y, hy, rfl⟩ := Option.map_eq_some_iff.1 hx; exact ih3 i y u hy hu
  · rw [List.getElem?_map] at hx; obtain ⟨y, hy, rfl⟩ := Option.map_eq_some_iff.1 hx; exact ih4 i y u hy hu
 | agg h1 _ ih =>
  simp only [SV.on, qe3]; refine .agg (by simpa using h1) (fun i x u hx hu => ?_); rw [List.getElem?_map] at hx; obtain ⟨y, hy, rfl⟩ := Option.map_eq_some_iff.1 hx; exact ih i y u hy hu
 | tup h1 _ ih =>
  simp only [SV.on, qe3]; refine .tup (by simpa using h1) (fun i x u hx hu => ?_); rw [List.getElem?_map] at hx; obtain ⟨y, hy, rfl⟩ := Option.map_eq_some_iff.1 hx; exact ih i y u hy hu
def Turns (C : Cx) (e : Ev) (C' : Cx) : Prop :=
 (∀ i o, C.Fz i = some o -> C'.Fz i = some o) /\
 match e with
 | .mod _ => ∀ p I, C.ρ p = some I -> C'.ρ p = some I
 | .kill b => ∀ p I, p ≠ b -> C.ρ p = some I -> C'.ρ p = some I
 | .frz b X L enc => (∀ p I, p ≠ b -> C.ρ p = some I -> C'.ρ p = some I) /\ ∀ I, C.ρ b = some I ->
  (∀ v, SimV C (.own b) v -> SimP C'.Fz (.lst X L enc) v) /\ (∀ (i : Nat) off v x, L[i]? = some x -> SimV C (.eptr b i off) v -> SimP C'.Fz (.rptr (enc x) off) v)
theorem SimV.turns {C C' : Cx} {e : Ev} (ht : Turns C e C') {s : SV} {v : AV} (h : SimV C s v) : SimV C' (s.on e) v := by
 induction h with
 | pure h => exact .pure ((h.mono ht.1).on e)
 | @ptr b off I h =>
  simp only [SV.on]
  cases e with
  | mod c => exact .ptr (ht.2 _ _ h)
  | kill c =>
    by_cases hb : b = c
    · simp [hb]; exact .pure (.any _)
    · simp only [qa4 hb, cond_false]; exact .ptr (ht.2 _ _ hb h)
  | frz c X L enc =>
    by_cases hb : b = c
    · simp [hb]; exact .pure (.any _)
    · simp only [qa4 hb, cond_false]; exact .ptr (ht.2.1 _ _ hb h)
 | @eptr b i off I h hc =>
  simp only [SV.on]
  cases e with
  | mod c => exact .eptr (ht.2 _ _ h) hc
  | kill c =>
    by_cases hb : b = c
    · simp [hb]; exact .pure (.any _)
    · simp only [qa4 hb, cond_false]; exact .eptr (ht.2 _ _ hb h) hc
  | frz c X L enc =>
    by_cases hb : b = c
    · subst hb; simp only [Nat.beq_refl, cond_true]; split
      · rename_i x hx; exact .pure ((ht.2.2 I h).2 i off _ x hx (.eptr h hc))
      · exact .pure (.any _)
    · simp only [qa4 hb, cond_false]; exact .eptr (ht.2.1 _ _ hb h) hc
 | @own0 b I h hc =>
  simp only [SV.on]
  cases e with
  | mod c => exact .own0 (ht.2 _ _ h) hc
  | kill c =>
    by_cases hb : b = c
    · simp [hb]; exact .pure (.any _)
    · simp only [qa4 hb, cond_false]; exact .own0 (ht.2 _ _ hb h) hc
  | frz c X L enc =>
    by_cases hb : b = c
    · subst hb; simp only [Nat.beq_refl, cond_true]; exact .pure ((ht.2.2 I h).1 _ (.own0 h hc))
    · simp only [qa4 hb, cond_false]; exact .own0 (ht.2.1 _ _ hb h) hc
 | @own b I c' h hc =>
  simp only [SV.on]
  cases e with
  | mod c => exact .own (ht.2 _ _ h) hc
  | kill c =>
    by_cases hb : b = c
    · simp [hb]; exact .pure (.any _)
    · simp only [qa4 hb, cond_false]; exact .own (ht.2 _ _ hb h) hc
  | frz c X L enc =>
    by_cases hb : b = c
    · subst hb; simp only [Nat.beq_refl, cond_true]; exact .pure ((ht.2.2 I h).1 _ (.own h hc))
    · simp only [qa4 hb, cond_false]; exact .own (ht.2.1 _ _ hb h) hc
 | @sl b off n c' I h =>
  simp only [SV.on]
  cases e with
  | mod c => exact .sl (ht.2 _ _ h)
  | kill c =>
    by_cases hb : b = c
    · simp [hb]; exact .pure (.any _)
    · simp only [qa4 hb, cond_false]; exact .sl (ht.2 _ _ hb h)
  | frz c X L enc =>
    by_cases hb : b = c
    · simp [hb]; exact .pure (.any _)
    · simp only [qa4 hb, cond_false]; exact .sl (ht.2.1 _ _ hb h)
 | fn h1 h2 _ _ ih3 ih4 =>
  simp only [SV.on, qe3]; refine .fn (by simpa using h1) (by simpa using h2) (fun i x u hx hu => ?_) (fun i x u hx hu => ?_)
  · rw [List.getElem?_map] at hx; obtain ⟨y, hy, rfl⟩ := Option.map_eq_some_iff.1 hx; exact ih3 i y u hy hu
  · rw [List.getElem?_map] at hx; obtain ⟨y, hy, rfl⟩ := Option.map_eq_some_iff.1 hx; exact ih4 i y u hy hu
 | agg h1 _ ih =>
  simp only [SV.on, qe3]; refine .agg (by simpa using h1) (fun i x u hx hu => ?_); rw [List.getElem?_map] at hx; obtain ⟨y, hy, rfl⟩ := Option.map_eq_some_iff.1 hx; exact ih i y u hy hu
 | tup h1 _ ih =>
  simp only [SV.on, qe3]; refine .tup (by simpa using h1) (fun i x u hx hu => ?_); rw [List.getElem?_map] at hx; obtain ⟨y, hy, rfl⟩ := Option.map_eq_some_iff.1 hx; exact ih i y u hy hu
def qcB : List Ev -> SV -> SV
 | [], s => s
 | e :: l, s => qcB l (s.on e)
theorem qcG (l m : List Ev) (s : SV) : qcB (l ++ m) s = qcB m (qcB l s) := by
 induction l generalizing s with
 | nil => rfl
 | cons e l ih => exact ih _
structure Tr (C : Cx) (log : List Ev) (C' : Cx) : Prop where
 val : ∀ s v, SimV C s v -> SimV C' (qcB log s) v
 fz : ∀ i o, C.Fz i = some o -> C'.Fz i = some o
theorem Tr.refl (C : Cx) : Tr C [] C := ⟨fun _ _ h => h, fun _ _ h => h⟩
theorem Tr.trans {C C' C'' : Cx} {l m : List Ev} (h : Tr C l C') (k : Tr C' m C'') : Tr C (l ++ m) C'' :=
 ⟨fun s v hs => by rw [qcG]; exact k.val _ _ (h.val _ _ hs), fun i o hi => k.fz i o (h.fz i o hi)⟩
theorem Turns.tr {C C' : Cx} {e : Ev} (h : Turns C e C') : Tr C [e] C' := ⟨fun _ _ hs => hs.turns h, h.1⟩
def Cx.le (C C' : Cx) : Prop := (∀ p I, C.ρ p = some I -> C'.ρ p = some I) /\ ∀ i o, C.Fz i = some o -> C'.Fz i = some o
theorem SimV.le {C C' : Cx} (hc : C.le C') {s : SV} {v : AV} (h : SimV C s v) : SimV C' s v := by
 induction h with
 | pure h => exact .pure (h.mono hc.2)
 | ptr h => exact .ptr (hc.1 _ _ h)
 | eptr h hs => exact .eptr (hc.1 _ _ h) hs
 | own0 h hs => exact .own0 (hc.1 _ _ h) hs
 | own h hs => exact .own (hc.1 _ _ h) hs
 | sl h => exact .sl (hc.1 _ _ h)
 | fn h1 h2 _ _ ih3 ih4 => exact .fn h1 h2 ih3 ih4
 | agg h1 _ ih => exact .agg h1 ih
 | tup h1 _ ih => exact .tup h1 ih
theorem Cx.le.tr {C C' : Cx} (h : C.le C') : Tr C [] C' := ⟨fun _ _ hs => hs.le h, h.2⟩
theorem Cx.le_refl (C : Cx) : C.le C := ⟨fun _ _ h => h, fun _ _ h => h⟩
def SimO (tab : Tab) (C : Cx) (I : BI) (o : SO) (a : AH) : Prop :=
 match o with
 | .cells cs e => I.cap.isSome /\ ∃ ca sz, a.get I.β = some (.cells ca e sz false .rw) /\ SimL C cs ca /\ tab.siz.get e = some sz
 | .arr X L enc e => tab.siz.get e = some I.sz /\ 0 < I.sz /\ I.len = L.length /\ (∀ (i : Nat) x, L[i]? = some x -> (enc x).length = I.sz) /\
  match I.cap with
  | none => L.length = 0
  | some c => ∃ ca ext bk, a.get I.β = some (.cells ca e I.sz ext bk) /\ (bk ≠ .ro /\ bk ≠ .cold) /\ ca.length = L.length * I.sz /\ ((c = .tail 0 /\ ext = true) \/ (c = .lit 0 /\ L.length = 0)) /\
   ∀ (i : Nat) x (j : Nat) v, L[i]? = some x -> (enc x)[j]? = some v -> ∃ u, ca[i * I.sz + j]? = some u /\ SimP C.Fz v u
structure HS (tab : Tab) (C : Cx) (h : SH) (a : AH) : Prop where
 obj : ∀ p o, h.get p = some o -> ∃ I, C.ρ p = some I /\ SimO tab C I o a
 inj : ∀ p q o o' I J, h.get p = some o -> h.get q = some o' -> C.ρ p = some I -> C.ρ q = some J -> I.cap.isSome -> J.cap.isSome -> I.β = J.β -> p = q
 fz : ∀ i o, C.Fz i = some o -> a.get i = some o
 dj : ∀ p o I, h.get p = some o -> C.ρ p = some I -> I.cap.isSome -> C.Fz I.β = none
 lt : ∀ p I, C.ρ p = some I -> p < h.next
 wf : ∀ i o, a.get i = some o -> i < a.next
def FS (C : Cx) (ts : Fr) (ta : T AV) : Prop := ∀ t s, look ts t = some s -> SimV C s ((ta.get t).getD (.tup []))
end Go.Sy
namespace Go.Sy
open Go.Am Go.RowKit
universe u v
variable [Inhabited DrP]
theorem qaY {α : Type u} (k : Nat) (v : α) (l : List (Nat × α)) (n : Nat) : look ((k, v) :: l) n = if n = k then some v else look l n := by
 simp only [look]; by_cases h : n = k
 · subst h; simp
 · rw [if_neg h, qa4 (fun e => h e.symm)]; rfl
theorem SH.get_set (h : SH) (b p : Nat) (o : Option SO) : (h.set b o).get p = if p = b then o else h.get p := by
 obtain ⟨n, os⟩ := h; simp only [SH.set, SH.get, qaY]; by_cases e : p = b
 · simp [e]; cases o <;> rfl
 · simp [e]
theorem SH.get_new (h : SH) (p : Nat) (o : SO) : (h.new o).get p = if p = h.next then some o else h.get p := by
 obtain ⟨n, os⟩ := h; simp only [SH.new, SH.get, qaY]; by_cases e : p = n <;> simp [e]
theorem SH.next_set (h : SH) (b : Nat) (o : Option SO) : (h.set b o).next = h.next := by obtain ⟨n, os⟩ := h; rfl
theorem SH.next_new (h : SH) (o : SO) : (h.new o).next = h.next + 1 := by obtain ⟨n, os⟩ := h; rfl
theorem qqt (e : Ev) (os : List (Nat × Option SO)) (p : Nat) : look (onH e os) p = (look os p).map fun o => o.map (SO.on e) := by
 induction os with
 | nil => rfl
 | cons x l ih =>
  obtain ⟨b, o⟩ := x
  cases o with
  | none => simp only [onH, qaY, ih]; split <;> simp
  | some o => simp only [onH, qaY, ih]; split <;> simp
theorem qft (e : Ev) (n : Nat) (os : List (Nat × Option SO)) (p : Nat) : (SH.mk n (onH e os)).get p = ((SH.mk n os).get p).map (SO.on e) := by
 simp only [SH.get, qqt]
 cases h : look os p with
 | none => rfl
 | some o => cases o <;> rfl
theorem qlZ (e : Ev) (ts : Fr) (t : Nat) : look (onF e ts) t = (look ts t).map (SV.on e) := by
 induction ts with
 | nil => rfl
 | cons x l ih =>
  obtain ⟨b, v⟩ := x; simp only [onF, qaY, ih]; split <;> simp
theorem FS.turns {C C' : Cx} {e : Ev} (ht : Turns C e C') {ts : Fr} {ta : T AV} (h : FS C ts ta) : FS C' (onF e ts) ta := by
 intro t s hs; rw [qlZ] at hs; obtain ⟨s0, h0, rfl⟩ := Option.map_eq_some_iff.1 hs; exact (h t s0 h0).turns ht
theorem FS.le {C C' : Cx} (hc : C.le C') {ts : Fr} {ta : T AV} (h : FS C ts ta) : FS C' ts ta := fun t s hs => (h t s hs).le hc
theorem FS.log {C C' : Cx} {log : List Ev} (ht : Tr C log C') {ts : Fr} {ta : T AV} (h : FS C ts ta) : FS C' (qmZ log ts) ta := by
 have key : ∀ (log : List Ev) (ts : Fr) (t : Nat), look (qmZ log ts) t = (look ts t).map (qcB log) := by
  intro log; induction log with
  | nil => intro ts t; simp [qmZ]; cases look ts t <;> rfl
  | cons e l ih =>
   intro ts t; simp only [qmZ, ih, qlZ, Option.map_map]; rfl
 intro t s hs; rw [key] at hs; obtain ⟨s0, h0, rfl⟩ := Option.map_eq_some_iff.1 hs; exact ht.val _ _ (h t s0 h0)
theorem FS.put {C : Cx} {ts : Fr} {ta : T AV} (h : FS C ts ta) {t : Nat} {s : SV} {v : AV} (hv : SimV C s v) : FS C ((t, s) :: ts) (ta.set t (some v)) := by
 intro t' s' hs; rw [qaY] at hs; rw [T.get_set]; split at hs
 · rename_i e
   cases hs; simpa [e] using hv
 · rename_i e; simpa [e] using h t' s' hs
theorem SimL.le {C C' : Cx} (hc : C.le C') {l : List SV} {m : List AV} (h : SimL C l m) : SimL C' l m := ⟨h.1, fun i s v hs hv => (h.2 i s v hs hv).le hc⟩
theorem SimL.turns {C C' : Cx} {e : Ev} (ht : Turns C e C') {l : List SV} {m : List AV} (h : SimL C l m) : SimL C' (zz34 e l) m := by
 rw [qe3]; refine ⟨by simp [h.1], fun i s v hs hv => ?_⟩; rw [List.getElem?_map] at hs; obtain ⟨s0, h0, rfl⟩ := Option.map_eq_some_iff.1 hs; exact (h.2 i s0 v h0 hv).turns ht
section
variable {tab : Tab} {C C' : Cx} {I : BI} {o : SO} {a a' : AH} {h : SH}
theorem SimO.congr (hg : a'.get I.β = a.get I.β) (ho : SimO tab C I o a) : SimO tab C I o a' := by
 cases o with
 | cells cs e =>
  simp only [SimO, hg] at ho ⊢; exact ho
 | arr X L enc e =>
  simp only [SimO, hg] at ho ⊢; exact ho
theorem SimO.le (hc : C.le C') (ho : SimO tab C I o a) : SimO tab C' I o a := by
 cases o with
 | cells cs e =>
  obtain ⟨h1, ca, sz, h2, h3, h4⟩ := ho; exact ⟨h1, ca, sz, h2, h3.le hc, h4⟩
 | arr X L enc e =>
  obtain ⟨h1, h2, h3, h4, h5⟩ := ho; refine ⟨h1, h2, h3, h4, ?_⟩
  cases hcap : I.cap with
  | none => rw [hcap] at h5; exact h5
  | some c =>
   rw [hcap] at h5; obtain ⟨ca, ext, bk, g1, g2, g3, g4, g5⟩ := h5; refine ⟨ca, ext, bk, g1, g2, g3, g4, fun i x j v hx hv => ?_⟩; obtain ⟨u, k1, k2⟩ := g5 i x j v hx hv; exact ⟨u, k1, k2.mono hc.2⟩
theorem SimO.turns {e : Ev} (ht : Turns C e C') (ho : SimO tab C I o a) : SimO tab C' I (o.on e) a := by
 cases o with
 | cells cs t =>
  obtain ⟨h1, ca, sz, h2, h3, h4⟩ := ho; exact ⟨h1, ca, sz, h2, h3.turns ht, h4⟩
 | arr X L enc t =>
  obtain ⟨h1, h2, h3, h4, h5⟩ := ho; refine ⟨h1, h2, h3, h4, ?_⟩
  cases hcap : I.cap with
  | none => rw [hcap] at h5; exact h5
  | some c =>
   rw [hcap] at h5; obtain ⟨ca, ext, bk, g1, g2, g3, g4, g5⟩ := h5; refine ⟨ca, ext, bk, g1, g2, g3, g4, fun i x j v hx hv => ?_⟩; obtain ⟨u, k1, k2⟩ := g5 i x j v hx hv; exact ⟨u, k1, k2.mono ht.1⟩
theorem SimO.live (ho : SimO tab C I o a) (hc : I.cap.isSome) : ∃ b, a.get I.β = some b := by
 cases o with
 | cells cs e =>
  obtain ⟨_, ca, sz, h2, _⟩ := ho; exact ⟨_, h2⟩
 | arr X L enc e =>
  obtain ⟨_, _, _, _, h5⟩ := ho; obtain ⟨c, hc⟩ := Option.isSome_iff_exists.1 hc; rw [hc] at h5; obtain ⟨ca, ext, bk, g1, _⟩ := h5; exact ⟨_, g1⟩
open Classical in
noncomputable def Cx.put (C : Cx) (p : Nat) (I : BI) : Cx := { C with ρ := fun q => if q = p then some I else C.ρ q }
theorem zz5 (C : Cx) (p : Nat) (I : BI) : (C.put p I).ρ p = some I := by simp [Cx.put]
theorem zz8 (C : Cx) {p q : Nat} (I : BI) (h : q ≠ p) : (C.put p I).ρ q = C.ρ q := by simp [Cx.put, h]
structure Grow (a a' : AH) : Prop where
 next : a.next <= a'.next
 old : ∀ i o, a'.get i = some o -> (∃ o0, a.get i = some o0) \/ a.next <= i
theorem Grow.refl (a : AH) : Grow a a := ⟨Nat.le_refl _, fun i o h => .inl ⟨o, h⟩⟩
theorem Grow.trans {a b c : AH} (h : Grow a b) (k : Grow b c) : Grow a c :=
 ⟨Nat.le_trans h.next k.next, fun i o hi => (k.old i o hi).elim (fun ⟨o', ho⟩ => h.old i o' ho) (fun hl => .inr (Nat.le_trans h.next hl))⟩
theorem Grow.new (a : AH) (o : AO) : Grow a (a.new o) := ⟨by simp, fun i o' hi => by
 rw [AH.get_new] at hi; split at hi
 · rename_i e; exact .inr (by omega)
 · exact .inl ⟨o', hi⟩⟩
theorem HS.new (H : HS tab C h a) {ao : AO} {o : SO} (I : BI) (hI : I.β = a.next) (ho : C.le (C.put h.next I) -> SimO tab (C.put h.next I) I o (a.new ao)) :
   C.le (C.put h.next I) /\ HS tab (C.put h.next I) (h.new o) (a.new ao) := by
 have hle : C.le (C.put h.next I) := by
   refine ⟨fun p J hp => ?_, fun i o h => h⟩; have := H.lt p J hp; rw [zz8 _ _ (by omega)]; exact hp
 refine ⟨hle, ?_⟩; have hold : ∀ p o', (h.new o).get p = some o' -> p ≠ h.next -> h.get p = some o' := by
   intro p o' hp hne; rw [SH.get_new, if_neg hne] at hp; exact hp
 have hne : ∀ p o', h.get p = some o' -> p ≠ h.next := by
   intro p o' hp e; obtain ⟨J, hJ, _⟩ := H.obj p o' hp; have := H.lt p J hJ; omega
 have hblk : ∀ p o' J, h.get p = some o' -> C.ρ p = some J -> J.cap.isSome -> J.β < a.next := by
   intro p o' J hp hJ hc; obtain ⟨J', hJ', hs⟩ := H.obj p o' hp; rw [hJ] at hJ'; cases hJ'; obtain ⟨b, hb⟩ := hs.live hc; exact H.wf _ _ hb
 refine ⟨?_, ?_, ?_, ?_, ?_, ?_⟩
 · intro p o' hp; by_cases e : p = h.next
   · subst e; rw [SH.get_new, if_pos rfl] at hp
     cases hp; exact ⟨I, zz5 _ _ _, ho hle⟩
   · have hp' := hold p o' hp e; obtain ⟨J, hJ, hs⟩ := H.obj p o' hp'; refine ⟨J, hle.1 _ _ hJ, ?_⟩; have hs' := hs.le hle; by_cases hc : J.cap.isSome
     · refine hs'.congr ?_; have := hblk p o' J hp' hJ hc; rw [AH.get_new, if_neg (by omega)]
     · cases o' with
       | cells cs t => exact absurd hs.1 hc
       | arr X L enc t =>
        obtain ⟨h1, h2, h3, h4, h5⟩ := hs'; refine ⟨h1, h2, h3, h4, ?_⟩
        cases hcap : J.cap with
        | none => rw [hcap] at h5; exact h5
        | some c => rw [hcap] at hc; simp at hc
 · intro p q o1 o2 J J' hp hq hJ hJ' hc hc' e; by_cases e1 : p = h.next
   · by_cases e2 : q = h.next
     · rw [e1, e2]
     · exfalso; subst e1; rw [zz5] at hJ; cases hJ; rw [zz8 _ _ e2] at hJ'; have := hblk q o2 J' (hold q o2 hq e2) hJ' hc'; omega
   · rw [zz8 _ _ e1] at hJ; by_cases e2 : q = h.next
     · exfalso; subst e2; rw [zz5] at hJ'; cases hJ'; have := hblk p o1 J (hold p o1 hp e1) hJ hc; omega
     · rw [zz8 _ _ e2] at hJ'; exact H.inj p q o1 o2 J J' (hold p o1 hp e1) (hold q o2 hq e2) hJ hJ' hc hc' e
 · intro i o' hi; have := H.fz i o' hi; have hl := H.wf _ _ this; rw [AH.get_new, if_neg (by omega)]; exact this
 · intro p o' J hp hJ hc; by_cases e : p = h.next
   · subst e; rw [zz5] at hJ; cases hJ; rw [hI]
     cases hz : (C.put h.next I).Fz a.next with
     | none => rfl
     | some o2 =>
       have := H.wf _ _ (H.fz _ _ hz); omega
   · rw [zz8 _ _ e] at hJ; exact H.dj p o' J (hold p o' hp e) hJ hc
 · intro p J hJ; rw [SH.next_new]; by_cases e : p = h.next
   · omega
   · rw [zz8 _ _ e] at hJ; have := H.lt p J hJ; omega
 · intro i o' hi; rw [AH.get_new] at hi; simp only [AH.next_new]; split at hi
   · omega
   · have := H.wf i o' hi; omega
theorem HS.new0 (H : HS tab C h a) {o : SO} (I : BI) (hI : I.cap = none) (ho : C.le (C.put h.next I) -> SimO tab (C.put h.next I) I o a) :
   C.le (C.put h.next I) /\ HS tab (C.put h.next I) (h.new o) a := by
 have hle : C.le (C.put h.next I) := by
   refine ⟨fun p J hp => ?_, fun i o h => h⟩; have := H.lt p J hp; rw [zz8 _ _ (by omega)]; exact hp
 refine ⟨hle, ?_⟩; have hold : ∀ p o', (h.new o).get p = some o' -> p ≠ h.next -> h.get p = some o' := by
   intro p o' hp hne; rw [SH.get_new, if_neg hne] at hp; exact hp
 refine ⟨?_, ?_, H.fz, ?_, ?_, H.wf⟩
 · intro p o' hp; by_cases e : p = h.next
   · subst e; rw [SH.get_new, if_pos rfl] at hp
     cases hp; exact ⟨I, zz5 _ _ _, ho hle⟩
   · obtain ⟨J, hJ, hs⟩ := H.obj p o' (hold p o' hp e); exact ⟨J, hle.1 _ _ hJ, hs.le hle⟩
 · intro p q o1 o2 J J' hp hq hJ hJ' hc hc' e; by_cases e1 : p = h.next
   · subst e1; rw [zz5] at hJ; cases hJ; rw [hI] at hc; simp at hc
   · rw [zz8 _ _ e1] at hJ; by_cases e2 : q = h.next
     · subst e2; rw [zz5] at hJ'; cases hJ'; rw [hI] at hc'; simp at hc'
     · rw [zz8 _ _ e2] at hJ'; exact H.inj p q o1 o2 J J' (hold p o1 hp e1) (hold q o2 hq e2) hJ hJ' hc hc' e
 · intro p o' J hp hJ hc; by_cases e : p = h.next
   · subst e; rw [zz5] at hJ; cases hJ; rw [hI] at hc; simp at hc
   · rw [zz8 _ _ e] at hJ; exact H.dj p o' J (hold p o' hp e) hJ hc
 · intro p J hJ; rw [SH.next_new]; by_cases e : p = h.next
   · omega
   · rw [zz8 _ _ e] at hJ; have := H.lt p J hJ; omega
theorem HS.renew (H : HS tab C h a) {d : Nat} {o0 : SO} {I0 : BI} (hd : h.get d = some o0) (hI0 : C.ρ d = some I0) (I : BI) {o : SO}
   (hold : ∀ i b, (I0.cap.isSome -> i ≠ I0.β) -> a.get i = some b -> a'.get i = some b) (hwf : ∀ i b, a'.get i = some b -> i < a'.next)
   (hnew : I.cap.isSome -> a.next <= I.β \/ (I0.cap.isSome /\ I.β = I0.β)) (hn : a.next <= a'.next) (ho : Turns C (.kill d) (C.put d I) -> SimO tab (C.put d I) I o a') :
   Turns C (.kill d) (C.put d I) /\ HS tab (C.put d I) ⟨h.next, (d, some o) :: onH (.kill d) h.os⟩ a' := by
 have hT : Turns C (.kill d) (C.put d I) := ⟨fun i o h => h, fun p J hp hJ => by rw [zz8 _ _ hp]; exact hJ⟩; refine ⟨hT, ?_⟩; have hget : ∀ p, (SH.mk h.next ((d, some o) :: onH (.kill d) h.os)).get p = if p = d then some o else (h.get p).map (SO.on (.kill d)) := by
   intro p; have h1 := qft (.kill d) h.next h.os p; simp only [SH.get, qaY] at h1 ⊢; by_cases e : p = d
   · simp [e]
   · simp only [if_neg e]; exact h1
 have hback : ∀ p o', (SH.mk h.next ((d, some o) :: onH (.kill d) h.os)).get p = some o' -> p ≠ d -> ∃ o1, h.get p = some o1 /\ o' = o1.on (.kill d) := by
   intro p o' hp hne; rw [hget, if_neg hne] at hp; obtain ⟨o1, h1, h2⟩ := Option.map_eq_some_iff.1 hp; exact ⟨o1, h1, h2.symm⟩
 have hlive : ∀ p o1 J, h.get p = some o1 -> C.ρ p = some J -> SimO tab C J o1 a := by
   intro p o1 J hp hJ; obtain ⟨J', hJ', hs⟩ := H.obj p o1 hp; rw [hJ] at hJ'; cases hJ'; exact hs
 have hne : ∀ p o1 J, h.get p = some o1 -> C.ρ p = some J -> J.cap.isSome -> p ≠ d -> (I0.cap.isSome -> J.β ≠ I0.β) := by
   intro p o1 J hp hJ hc hpd hc0 e; exact hpd (H.inj p d o1 o0 J I0 hp hd hJ hI0 hc hc0 e)
 refine ⟨?_, ?_, ?_, ?_, ?_, hwf⟩
 · intro p o' hp; by_cases e : p = d
   · subst e; rw [hget, if_pos rfl] at hp
     cases hp; exact ⟨I, zz5 _ _ _, ho hT⟩
   · obtain ⟨o1, h1, rfl⟩ := hback p o' hp e; obtain ⟨J, hJ, hs⟩ := H.obj p o1 h1; refine ⟨J, hT.2 p J e hJ, ?_⟩; have hs' := hs.turns hT; by_cases hc : J.cap.isSome
     · obtain ⟨b, hb⟩ := hs.live hc; exact hs'.congr ((hold _ _ (hne p o1 J h1 hJ hc e) hb).trans hb.symm)
     · cases o1 with
       | cells cs t => exact absurd hs.1 hc
       | arr X L enc t =>
        obtain ⟨g1, g2, g3, g4, g5⟩ := hs'; refine ⟨g1, g2, g3, g4, ?_⟩
        cases hcap : J.cap with
        | none => rw [hcap] at g5; exact g5
        | some c => rw [hcap] at hc; simp at hc
 · have key : ∀ q o2 J, (SH.mk h.next ((d, some o) :: onH (.kill d) h.os)).get q = some o2 -> q ≠ d -> (C.put d I).ρ q = some J -> J.cap.isSome -> I.cap.isSome -> I.β ≠ J.β := by
     intro q o2 J hq e2 hJ' hc' hc e; rw [zz8 _ _ e2] at hJ'; obtain ⟨o3, h3, rfl⟩ := hback q o2 hq e2; obtain ⟨b, hb⟩ := (hlive q o3 J h3 hJ').live hc'; have hlt := H.wf _ _ hb; rcases hnew hc with hge | ⟨h0, he⟩
     · omega
     · exact hne q o3 J h3 hJ' hc' e2 h0 (by rw [<- e, he])
   intro p q o1 o2 J J' hp hq hJ hJ' hc hc' e; by_cases e1 : p = d
   · by_cases e2 : q = d
     · rw [e1, e2]
     · exfalso; subst e1; rw [zz5] at hJ; cases hJ; exact key q o2 J' hq e2 hJ' hc' hc e
   · by_cases e2 : q = d
     · exfalso; subst e2; rw [zz5] at hJ'; cases hJ'; exact key p o1 J hp e1 hJ hc hc' e.symm
     · rw [zz8 _ _ e1] at hJ; rw [zz8 _ _ e2] at hJ'; obtain ⟨o3, h3, _⟩ := hback p o1 hp e1; obtain ⟨o4, h4, _⟩ := hback q o2 hq e2; exact H.inj p q o3 o4 J J' h3 h4 hJ hJ' hc hc' e
 · intro i b hi; have h1 := H.fz i b hi; refine hold i b (fun hc e => ?_) h1; subst e; have := H.dj d o0 I0 hd hI0 hc; rw [show C.Fz I0.β = some b from hi] at this; cases this
 · intro p o' J hp hJ hc; by_cases e : p = d
   · subst e; rw [zz5] at hJ; cases hJ; rcases hnew hc with hge | ⟨h0, he⟩
     · cases hz : C.Fz I.β with
       | none => exact hz
       | some o2 =>
        have := H.wf _ _ (H.fz _ _ hz); omega
     · rw [he]; exact H.dj p o0 I0 hd hI0 h0
   · rw [zz8 _ _ e] at hJ; obtain ⟨o3, h3, _⟩ := hback p o' hp e; exact H.dj p o3 J h3 hJ hc
 · intro p J hJ; by_cases e : p = d
   · subst e; exact H.lt p I0 hI0
   · rw [zz8 _ _ e] at hJ; exact H.lt p J hJ
end
end Go.Sy
namespace Go.Sy
open Go.Am Go.RowKit
universe u v
variable [Inhabited DrP]
section
variable {tab : Tab} {C C' : Cx} {I : BI} {o : SO} {a a' : AH} {h : SH}
theorem HS.at_ (H : HS tab C h a) {p : Nat} {o : SO} {I : BI} (hp : h.get p = some o) (hI : C.ρ p = some I) : SimO tab C I o a := by
 obtain ⟨J, hJ, hs⟩ := H.obj p o hp; rw [hI] at hJ; cases hJ; exact hs
theorem HS.mod (H : HS tab C h a) {d : Nat} {o0 : SO} {I0 : BI} (hd : h.get d = some o0) (hI0 : C.ρ d = some I0) (hb : I0.cap.isSome) {o : SO} {ao : AO} (ho : SimO tab C I0 o (a.set I0.β ao)) :
   HS tab C (h.set d (some o)) (a.set I0.β ao) := by
 have hback : ∀ p o', (h.set d (some o)).get p = some o' -> p ≠ d -> h.get p = some o' := by
   intro p o' hp hne; rw [SH.get_set, if_neg hne] at hp; exact hp
 have hany : ∀ p o', (h.set d (some o)).get p = some o' -> ∃ o1, h.get p = some o1 := by
   intro p o' hp; by_cases e : p = d
   · exact ⟨o0, e ▸ hd⟩
   · exact ⟨o', hback p o' hp e⟩
 have hlt := H.wf _ _ ((H.at_ hd hI0).live hb).choose_spec; refine ⟨?_, ?_, ?_, ?_, ?_, ?_⟩
 · intro p o' hp; by_cases e : p = d
   · subst e; rw [SH.get_set, if_pos rfl] at hp
     cases hp; exact ⟨I0, hI0, ho⟩
   · have hp' := hback p o' hp e; obtain ⟨J, hJ, hs⟩ := H.obj p o' hp'; refine ⟨J, hJ, ?_⟩; by_cases hc : J.cap.isSome
     · refine hs.congr ?_; rw [AH.get_set, if_neg]; intro e'; exact e (H.inj p d o' o0 J I0 hp' hd hJ hI0 hc hb e')
     · cases o' with
       | cells cs t => exact absurd hs.1 hc
       | arr X L enc t =>
        obtain ⟨g1, g2, g3, g4, g5⟩ := hs; refine ⟨g1, g2, g3, g4, ?_⟩
        cases hcap : J.cap with
        | none => rw [hcap] at g5; exact g5
        | some c => rw [hcap] at hc; simp at hc
 · intro p q o1 o2 J J' hp hq hJ hJ' hc hc' e; obtain ⟨o3, h3⟩ := hany p o1 hp; obtain ⟨o4, h4⟩ := hany q o2 hq; exact H.inj p q o3 o4 J J' h3 h4 hJ hJ' hc hc' e
 · intro i b hi; have h1 := H.fz i b hi; rw [AH.get_set, if_neg]
   · exact h1
   · intro e; subst e; have := H.dj d o0 I0 hd hI0 hb; rw [hi] at this; cases this
 · intro p o' J hp hJ hc; obtain ⟨o3, h3⟩ := hany p o' hp; exact H.dj p o3 J h3 hJ hc
 · intro p J hJ; rw [SH.next_set]; exact H.lt p J hJ
 · intro i b hi; rw [AH.get_set] at hi; simp only [AH.next_set]; split at hi
   · rename_i e; rw [e]; exact hlt
   · exact H.wf i b hi
open Classical in
noncomputable def Cx.freeze (C : Cx) (β : Nat) (p : Prop) (o : Option AO) : Cx := { C with Fz := fun i => if p /\ i = β then o else C.Fz i }
theorem HS.freeze (H : HS tab C h a) {d : Nat} {o0 : SO} {I0 : BI} (hd : h.get d = some o0) (hI0 : C.ρ d = some I0) {e : Ev} (he : ∀ C' : Cx, (∀ i o, C.Fz i = some o -> C'.Fz i = some o) -> (∀ p I, C.ρ p = some I -> C'.ρ p = some I) ->
     (I0.cap.isSome -> C'.Fz I0.β = a.get I0.β) -> Turns C e C') :
   ∃ C', Turns C e C' /\ HS tab C' ⟨h.next, (d, none) :: onH e h.os⟩ a /\ (I0.cap.isSome -> C'.Fz I0.β = a.get I0.β) /\ C'.ρ = C.ρ := by
 classical
 let C' : Cx := C.freeze I0.β (I0.cap.isSome = true) (a.get I0.β)
 have hfz : ∀ i o, C.Fz i = some o -> C'.Fz i = some o := by
   intro i o hi; simp only [C', Cx.freeze]; split
   · rename_i hc; obtain ⟨hb, rfl⟩ := hc; have := H.dj d o0 I0 hd hI0 hb; rw [hi] at this; cases this
   · exact hi
 have hfb : I0.cap.isSome -> C'.Fz I0.β = a.get I0.β := by
   intro hb; simp [C', Cx.freeze, hb]
 have hback' : ∀ i o, C'.Fz i = some o -> C.Fz i = some o \/ (I0.cap.isSome /\ i = I0.β /\ a.get i = some o) := by
   intro i o hi; simp only [C', Cx.freeze] at hi; split at hi
   · rename_i hc; exact .inr ⟨hc.1, hc.2, by rw [hc.2]; exact hi⟩
   · exact .inl hi
 have hT := he C' hfz (fun p I h => h) hfb; refine ⟨C', hT, ?_, hfb, rfl⟩; have hget : ∀ p, (SH.mk h.next ((d, none) :: onH e h.os)).get p = if p = d then none else (h.get p).map (SO.on e) := by
   intro p; have h1 := qft e h.next h.os p; simp only [SH.get, qaY] at h1 ⊢; by_cases e : p = d
   · simp [e]
   · simp only [if_neg e]; exact h1
 have hback : ∀ p o', (SH.mk h.next ((d, none) :: onH e h.os)).get p = some o' -> p ≠ d /\ ∃ o1, h.get p = some o1 /\ o' = o1.on e := by
   intro p o' hp; rw [hget] at hp; split at hp
   · cases hp
   · rename_i hne; obtain ⟨o1, h1, h2⟩ := Option.map_eq_some_iff.1 hp; exact ⟨hne, o1, h1, h2.symm⟩
 refine ⟨?_, ?_, ?_, ?_, H.lt, H.wf⟩
 · intro p o' hp; obtain ⟨hne, o1, h1, rfl⟩ := hback p o' hp; obtain ⟨J, hJ, hs⟩ := H.obj p o1 h1; exact ⟨J, hJ, hs.turns hT⟩
 · intro p q o1 o2 J J' hp hq hJ hJ' hc hc' e; obtain ⟨_, o3, h3, _⟩ := hback p o1 hp; obtain ⟨_, o4, h4, _⟩ := hback q o2 hq; exact H.inj p q o3 o4 J J' h3 h4 hJ hJ' hc hc' e
 · intro i b hi; rcases hback' i b hi with h1 | ⟨_, _, h1⟩
   · exact H.fz i b h1
   · exact h1
 · intro p o' J hp hJ hc; obtain ⟨hne, o3, h3, _⟩ := hback p o' hp
   cases hz : C'.Fz J.β with
   | none => rfl
   | some b =>
     rcases hback' _ b hz with h1 | ⟨hb, h1, _⟩
     · have := H.dj p o3 J h3 hJ hc; rw [h1] at this; cases this
     · exact absurd (H.inj p d o3 o0 J I0 h3 hd hJ hI0 hc hb h1) hne
theorem qn9 (H : HS tab C h a) {d : Nat} {X : Type} {L : List X} {enc : X -> List SV} {t : TypeId} {I0 : BI} (hd : h.get d = some (.arr X L enc t)) (hI0 : C.ρ d = some I0) (C' : Cx)
   (hfz : ∀ i o, C.Fz i = some o -> C'.Fz i = some o) (hρ : ∀ p I, C.ρ p = some I -> C'.ρ p = some I) (hb : I0.cap.isSome -> C'.Fz I0.β = a.get I0.β) : Turns C (.frz d X L enc) C' := by
 refine ⟨hfz, fun p I _ h => hρ p I h, fun I hI => ?_⟩; rw [hI0] at hI; cases hI; obtain ⟨g1, g2, g3, g4, g5⟩ := H.at_ hd hI0; constructor
 · intro v hv
   cases hv with
   | pure h => cases h
   | own0 hI hc =>
    rw [hI0] at hI; cases hI; rw [hc] at g5; exact .lst0 g5 (.inl rfl)
   | own hI hc =>
    rw [hI0] at hI; cases hI; rw [hc] at g5; obtain ⟨ca, ext, bk, k1, k2, k3, k4, k5⟩ := g5; rw [g3]; refine .lst I0.β 0 _ ca t I0.sz ext bk (fun i j => (ca[0 + i * I0.sz + j]?).getD (.tup [])) (.of (by rw [hb (by simp [hc]), k1])) g2 (by omega) g4 ?_ ?_ ?_
    · rcases k4 with ⟨rfl, rfl⟩ | ⟨rfl, h0⟩
      · exact ⟨rfl, by simp⟩
      · simp [qi5, h0]
    · intro i x j v hx hv; obtain ⟨u, k6, _⟩ := k5 i x j v hx hv; rw [Nat.zero_add, k6]; rfl
    · intro i x j v hx hv; obtain ⟨u, k6, k7⟩ := k5 i x j v hx hv; rw [Nat.zero_add, k6]; exact k7.mono hfz
 · intro i off v x hx hv
   cases hv with
   | pure h => cases h
   | eptr hI hc =>
    rw [hI0] at hI; cases hI; obtain ⟨c, hc'⟩ := Option.isSome_iff_exists.1 hc; rw [hc'] at g5; obtain ⟨ca, ext, bk, k1, k2, k3, k4, k5⟩ := g5; refine .rptr I0.β (i * I0.sz) ca t I0.sz ext bk (fun j => (ca[i * I0.sz + j]?).getD (.tup [])) (by rw [hb hc, k1]) ?_ ?_ ?_
    · have hlt := (List.getElem?_eq_some_iff.1 hx).1; rw [k3, g4 i x hx]
      calc i * I0.sz + I0.sz = (i + 1) * I0.sz := by rw [Nat.add_mul, Nat.one_mul]
        _ <= L.length * I0.sz := Nat.mul_le_mul_right _ hlt
    · intro j v hv; obtain ⟨u, k6, _⟩ := k5 i x j v hx hv; rw [k6]; rfl
    · intro j v hv; obtain ⟨u, k6, k7⟩ := k5 i x j v hx hv; rw [k6]; exact k7.mono hfz
theorem qmU {d : Nat} (C' : Cx) (hfz : ∀ i o, C.Fz i = some o -> C'.Fz i = some o) (hρ : ∀ p I, C.ρ p = some I -> C'.ρ p = some I) : Turns C (.kill d) C' := ⟨hfz, fun p I _ h => hρ p I h⟩
end
def Keep (C : Cx) (h : SH) (a : AH) (new : List Ev) (C' : Cx) (h' : SH) (a' : AH) : Prop := ∀ p o I, h.get p = some o -> C.ρ p = some I -> I.cap.isSome -> p ∉ qcy new ->
 a'.get I.β = a.get I.β /\ ((∃ o', h'.get p = some o' /\ C'.ρ p = some I) \/ ∃ b, C'.Fz I.β = some b)
theorem Keep.same (C : Cx) (h : SH) (a : AH) (new : List Ev) : Keep C h a new C h a := fun _ o _ hp hI _ _ => ⟨rfl, .inl ⟨o, hp, hI⟩⟩
theorem Keep.new {tab : Tab} {C C' : Cx} {h h' : SH} {a : AH} (H : HS tab C h a) (o : AO) (new : List Ev) (hle : C.le C') (hh : ∀ p o, h.get p = some o -> ∃ o', h'.get p = some o') : Keep C h a new C' h' (a.new o) := by
 intro p o' I hp hI hc _; obtain ⟨b, hb⟩ := (H.at_ hp hI).live hc; have := H.wf _ _ hb; obtain ⟨o2, h2⟩ := hh p o' hp; exact ⟨by rw [AH.get_new, if_neg (by omega)], .inl ⟨o2, h2, hle.1 _ _ hI⟩⟩
theorem qdL {tab : Tab} {C : Cx} {h : SH} {a : AH} (H : HS tab C h a) (o : SO) : ∀ p o', h.get p = some o' -> ∃ o2, (h.new o).get p = some o2 := by
 intro p o' hp; obtain ⟨I, hI, _⟩ := H.obj p o' hp; have := H.lt p I hI; exact ⟨o', by rw [SH.get_new, if_neg (by omega)]; exact hp⟩
structure Res (tab : Tab) (C : Cx) (s : St) (ta : T AV) (a : AH) (sv : SV) (s' : St) (v : AV) (a' : AH) : Prop where
 ex : ∃ C' new, s'.log = s.log ++ new /\ Tr C new C' /\ SimV C' sv v /\ HS tab C' s'.h a' /\ FS C' s'.ts ta /\ Keep C s.h a new C' s'.h a'
 grow : Grow a a'
theorem Res.same {tab : Tab} {C : Cx} {s : St} {ta : T AV} {a : AH} {sv : SV} {v : AV} (hF : FS C s.ts ta) (H : HS tab C s.h a) (hv : SimV C sv v) : Res tab C s ta a sv s v a :=
 ⟨⟨C, [], by simp, Tr.refl C, hv, H, hF, Keep.same _ _ _ _⟩, Grow.refl a⟩
def Stays (C : Cx) (h : SH) (a : AH) (C1 : Cx) (h1 : SH) : Prop := ∀ p o I, h.get p = some o -> C.ρ p = some I -> I.cap.isSome -> (∃ o', h1.get p = some o' /\ C1.ρ p = some I) \/ ∃ b, a.get I.β = some b /\ C1.Fz I.β = some b
theorem Stays.refl (C : Cx) (h : SH) (a : AH) : Stays C h a C h := fun p o I hp hI _ => .inl ⟨o, hp, hI⟩
theorem Stays.trans {C C1 C2 : Cx} {h h1 h2 : SH} {a : AH} (k : Stays C h a C1 h1) (k' : Stays C1 h1 a C2 h2) (hf : ∀ i o, C1.Fz i = some o -> C2.Fz i = some o) : Stays C h a C2 h2 := by
 intro p o I hp hI hc; rcases k p o I hp hI hc with ⟨o', h1, h2⟩ | ⟨b, h1, h2⟩
 · exact k' p o' I h1 h2 hc
 · exact .inr ⟨b, h1, hf _ _ h2⟩
theorem Stays.keep {C C1 : Cx} {h h1 : SH} {a : AH} (k : Stays C h a C1 h1) (new : List Ev) : Keep C h a new C1 h1 a :=
 fun p o I hp hI hc _ => ⟨rfl, (k p o I hp hI hc).imp id (fun ⟨b, _, h⟩ => ⟨b, h⟩)⟩
theorem zz56 {tab : Tab} {C : Cx} {s : St} {ta : T AV} {a : AH} (hF : FS C s.ts ta) (H : HS tab C s.h a) {d : Nat} {X : Type} {L : List X} {enc : X -> List SV} {t : TypeId} (hd : s.h.get d = some (.arr X L enc t)) :
   ∃ C', ((s.ev (.frz d X L enc)).del d).log = s.log ++ [.frz d X L enc] /\ Tr C [.frz d X L enc] C' /\ HS tab C' ((s.ev (.frz d X L enc)).del d).h a /\ FS C' ((s.ev (.frz d X L enc)).del d).ts ta /\
    (∀ v, SimV C (.own d) v -> SimP C'.Fz (.lst X L enc) v) /\ Stays C s.h a C' ((s.ev (.frz d X L enc)).del d).h := by
 obtain ⟨ts, ⟨n, os⟩, log⟩ := s; obtain ⟨I, hI, ho⟩ := H.obj d _ hd; obtain ⟨C', hT, H', hfb, hρ⟩ := H.freeze hd hI (qn9 H hd hI); refine ⟨C', rfl, hT.tr, H', hF.turns hT, (hT.2.2 I hI).1, ?_⟩; intro p o J hp hJ hc; by_cases e : p = d
 · subst e; rw [hI] at hJ; cases hJ; obtain ⟨b, hb⟩ := (H.at_ hp hI).live hc; exact .inr ⟨b, hb, by rw [hfb hc, hb]⟩
 · refine .inl ⟨o.on (.frz d X L enc), ?_, by rw [hρ]; exact hJ⟩; simp only [St.ev, St.del, SH.get_set, if_neg e]; rw [qft, hp]; rfl
end Go.Sy
namespace Go.Sy
open Go.Am Go.RowKit
universe u v
variable [Inhabited DrP]
theorem rb {α β : Type} {x : R α} {a : α} (h : x = .ok a) (f : α -> R β) : (x >>= f) = f a := by rw [h]; rfl
theorem ro {α : Type} {s : String} {x : Option α} {a : α} (h : x = some a) : R.of s x = .ok a := by rw [h]; rfl
theorem rc {s : String} {b : Bool} (h : b = true) : R.check s b = .ok () := by rw [h]; rfl
theorem qaK {α : Type u} {x : Option α} {k : α -> Prop} (h : so x k) : ∃ a, x = some a /\ k a := by
 cases x with
 | none => exact h.elim
 | some a => exact ⟨a, rfl, h⟩
theorem qaB {b : Bool} {p : Prop} (h : ck b p) : b = true /\ p := by
 cases b with
 | false => exact h.elim
 | true => exact ⟨rfl, h⟩
theorem qpv {b : Bool} {p q : Prop} (h : br b p q) : (b = true /\ p) \/ (b = false /\ q) := by
 cases b with
 | false => exact .inr ⟨rfl, h⟩
 | true => exact .inl ⟨rfl, h⟩
theorem qkL {α : Type u} {β : Type v} {f : α -> Option β} : ∀ {l : List α} {m : List β}, mapO f l = some m -> l.length = m.length /\ ∀ (i : Nat) a b, l[i]? = some a -> m[i]? = some b -> f a = some b := by
 intro l; induction l with
 | nil => intro m h; simp only [mapO, Option.some.injEq] at h; subst h; exact ⟨rfl, fun i a b h => by simp at h⟩
 | cons x l ih =>
  intro m h; simp only [mapO] at h; split at h
  · rename_i y m' hy hm
    cases h; obtain ⟨h1, h2⟩ := ih hm; refine ⟨by simp [h1], fun i a b ha hb => ?_⟩
    cases i with
    | zero => simp at ha hb; subst ha; subst hb; exact hy
    | succ i => exact h2 i a b (by simpa using ha) (by simpa using hb)
  · cases h
section
variable {tab : Tab} {C : Cx}
theorem qfy {v : Value} {s : SV} (h : qgZ v = some s) : SimV C s (qe2 v) := by
 unfold qgZ at h; split at h <;> cases h <;> simp only [qe2] <;> exact .pure (by constructor)
theorem qkQ {v : Value} {s : SV} (h : qiG v = some s) : SimV C s (qep v) := by
 unfold qiG at h; split at h
 · rename_i cs; obtain ⟨l, hl, rfl⟩ := Option.map_eq_some_iff.1 h; obtain ⟨h1, h2⟩ := qkL hl; refine .agg (by simp [<- h1]) (fun i c v hc hv => ?_); rw [List.getElem?_map] at hv; obtain ⟨w, hw, rfl⟩ := Option.map_eq_some_iff.1 hv; exact qfy (h2 i w c hw hc)
 · rename_i cs; obtain ⟨l, hl, rfl⟩ := Option.map_eq_some_iff.1 h; obtain ⟨h1, h2⟩ := qkL hl; refine .tup (by simp [<- h1]) (fun i c v hc hv => ?_); rw [List.getElem?_map] at hv; obtain ⟨w, hw, rfl⟩ := Option.map_eq_some_iff.1 hv; exact qfy (h2 i w c hw hc)
 · rename_i h1 h2; have : qep v = qe2 v := by
    cases v with
    | agg cs => exact absurd rfl (h1 cs)
    | tuple cs => exact absurd rfl (h2 cs)
    | _ => rfl
   rw [this]; exact qfy h
theorem qoF {v : AV} {s : SV} (h : ofAV v = some s) : SimV C s v := by
 unfold ofAV at h; split at h <;> cases h <;> exact .pure (by constructor)
theorem qcJ {ts : Fr} {ta : T AV} (hF : FS C ts ta) {x : Operand} {s : SV} (h : sev ts x = some s) : ∃ v, ev ta x = .ok v /\ SimV C s v := by
 cases x with
 | tmp t => exact ⟨_, rfl, hF t s h⟩
 | const v => exact ⟨_, rfl, qkQ h⟩
 | func f =>
  simp only [sev, Option.some.injEq] at h; subst h; exact ⟨_, rfl, .fn rfl rfl (fun i x u hx => by simp at hx) (fun i x u hx => by simp at hx)⟩
 | global g => cases h
theorem qet {ts : Fr} {ta : T AV} (hF : FS C ts ta) : ∀ {l : List Operand} {m : List SV}, sevs ts l = some m -> ∃ vs, evs ta l = .ok vs /\ SimL C m vs := by
 intro l; induction l with
 | nil => intro m h; simp only [sevs, mapO, Option.some.injEq] at h; subst h; exact ⟨[], rfl, SimL.nil⟩
 | cons x l ih =>
  intro m h; simp only [sevs, mapO] at h; split at h
  · rename_i y m' hy hm
    cases h; obtain ⟨v, hv, h1⟩ := qcJ hF hy; obtain ⟨vs, hvs, h2⟩ := ih hm; refine ⟨v :: vs, ?_, SimL.cons h1 h2⟩; simp only [evs]; rw [rb hv, rb hvs]
  · cases h
theorem SimL.get {cs : List SV} {ca : List AV} (h : SimL C cs ca) {i : Nat} {s : SV} (hs : cs[i]? = some s) : ∃ v, ca[i]? = some v /\ SimV C s v := by
 have hlt : i < ca.length := by rw [<- h.1]; exact (List.getElem?_eq_some_iff.1 hs).1
 exact ⟨ca[i], List.getElem?_eq_getElem hlt, h.2 i s _ hs (List.getElem?_eq_getElem hlt)⟩
theorem qd3 {cs : List SV} {ca : List AV} (hc : SimL C cs ca) {t off : Nat} {s : SV} (h : qg1 tab t cs off = some s) : ∃ v, Am.part tab t ca off = .ok v /\ SimV C s v := by
 unfold qg1 at h; unfold Am.part; split at h
 · rename_i hg; split at h
   · rename_i n hn
     cases hb : Nat.ble (off + n) cs.length
     · rw [hb] at h; cases h
     · rw [hb] at h; cases h; refine ⟨.agg ((ca.drop off).take n), ?_, .agg ((hc.drop off).take n).1 ((hc.drop off).take n).2⟩; rw [rb (show Am.isAgg tab t = .ok true from ro hg)]; simp only [if_true]; rw [rb (show siz tab t = .ok n from ro hn)]
   · cases h
 · rename_i hg; obtain ⟨v, h1, h2⟩ := hc.get h; refine ⟨v, ?_, h2⟩; rw [rb (show Am.isAgg tab t = .ok false from ro hg)]; simp only [Bool.false_eq_true, if_false]; exact ro h1
 · cases h
theorem qg0 {cs vs : List SV} {ca va : List AV} (hc : SimL C cs ca) (hv : SimL C vs va) (off : Nat) : SimL C (qe4 cs off vs) (qcQ ca off va) := by
 unfold qe4 qcQ; rw [hv.1]; exact (hc.take off).append (hv.append (hc.drop _))
theorem qeF {s : SV} {v : AV} (h : SimV C s v) (hk : s.known = true) : ∃ l, v.cells = .ok l /\ SimL C s.cells l := by
 have one : ∀ {s : SV} {v : AV}, SimV C s v -> SimL C [s] [v] := fun h => SimL.cons h SimL.nil
 cases h with
 | pure h =>
  cases h with
  | any v => cases hk
  | agg h1 h2 => exact ⟨_, rfl, h1, fun i s v hs hv => .pure (h2 i s v hs hv)⟩
  | bool b => exact ⟨_, rfl, one (.pure (.bool b))⟩
  | int k n => exact ⟨_, rfl, one (.pure (.int k n))⟩
  | str s => exact ⟨_, rfl, one (.pure (.str s))⟩
  | nilp => exact ⟨_, rfl, one (.pure .nilp)⟩
  | wp a => exact ⟨_, rfl, one (.pure (.wp a))⟩
  | nils => exact ⟨_, rfl, one (.pure .nils)⟩
  | nilm => exact ⟨_, rfl, one (.pure .nilm)⟩
  | nilf => exact ⟨_, rfl, one (.pure .nilf)⟩
  | lst0 h0 hv =>
   rcases hv with rfl | ⟨b, off, l, n, k, rfl⟩ | ⟨a, c, rfl⟩
   · exact ⟨_, rfl, one (.pure (.lst0 h0 (.inl rfl)))⟩
   · exact ⟨_, rfl, one (.pure (.lst0 h0 (.inr (.inl ⟨_, _, _, _, _, rfl⟩))))⟩
   · exact ⟨_, rfl, one (.pure (.lst0 h0 (.inr (.inr ⟨_, _, rfl⟩))))⟩
  | lst b off cap cs e sz ext bk u hb hs hl hn hc h1 h2 => exact ⟨_, rfl, one (.pure (.lst b off cap cs e sz ext bk u hb hs hl hn hc h1 h2))⟩
  | rptr b base ca e sz ext bk u hb hl h1 h2 => exact ⟨_, rfl, one (.pure (.rptr b base ca e sz ext bk u hb hl h1 h2))⟩
  | fn h1 h2 h3 h4 => exact ⟨_, rfl, one (.pure (.fn h1 h2 h3 h4))⟩
  | tup h1 h2 => exact ⟨_, rfl, one (.pure (.tup h1 h2))⟩
 | ptr h => exact ⟨_, rfl, one (.ptr h)⟩
 | eptr h hc => exact ⟨_, rfl, one (.eptr h hc)⟩
 | own0 h hc => exact ⟨_, rfl, one (.own0 h hc)⟩
 | own h hc => exact ⟨_, rfl, one (.own h hc)⟩
 | sl h => exact ⟨_, rfl, one (.sl h)⟩
 | fn h1 h2 h3 h4 => exact ⟨_, rfl, one (.fn h1 h2 h3 h4)⟩
 | agg h1 h2 => exact ⟨_, rfl, h1, h2⟩
 | tup h1 h2 => exact ⟨_, rfl, one (.tup h1 h2)⟩
theorem qjW {s : SV} {v : AV} (h : SimV C s v) (hk : qga s = true) : qcf v = true := by
 cases h with
 | pure h =>
  cases h with
  | any v => cases hk
  | agg h1 h2 => cases hk
  | tup h1 h2 => cases hk
  | lst0 h0 hv => rcases hv with rfl | ⟨b, off, l, n, k, rfl⟩ | ⟨a, c, rfl⟩ <;> rfl
  | _ => rfl
 | agg h1 h2 => cases hk
 | tup h1 h2 => cases hk
 | _ => rfl
theorem qhY {cs : List SV} {ca : List AV} (hc : SimL C cs ca) (h : cs.all qga = true) : ca.all qcf = true := by
 rw [List.all_eq_true] at h ⊢; intro v hv; obtain ⟨i, hi⟩ := List.mem_iff_getElem?.1 hv; have hlt : i < cs.length := by rw [hc.1]; exact (List.getElem?_eq_some_iff.1 hi).1
 exact qjW (hc.2 i _ v (List.getElem?_eq_getElem hlt) hi) (h _ (List.getElem_mem hlt))
theorem qdp {t : TypeId} {z : List SV} (h : qnl tab t = some z) : ∃ zv zc, zero tab t = .ok zv /\ zv.cells = .ok zc /\ SimL C z zc := by
 unfold qnl at h; obtain ⟨zv, h1, h2⟩ := Option.bind_eq_some_iff.1 h; refine ⟨zv, ?_⟩
 cases zv with
 | agg cs =>
  simp only [qqD] at h2; obtain ⟨g1, g2⟩ := qkL h2; exact ⟨cs, ro h1, rfl, g1.symm, fun i s v hs hv => qoF (g2 i v s hv hs)⟩
 | raw v => simp [qqD, ofAV] at h2
 | _ =>
  simp only [qqD, ofAV, Option.map_some, Option.map_none, Option.some.injEq] at h2
  first
   | (cases h2; done)
   | (subst h2; exact ⟨_, ro h1, rfl, SimL.cons (.pure (by constructor)) SimL.nil⟩)
end
end Go.Sy
namespace Go.Sy
open Go.Am Go.RowKit
universe u v
variable [Inhabited DrP]
section
variable {tab : Tab} {C : Cx} {h : SH} {a : AH}
theorem qau {b : Nat} {ca : List AV} {e : TypeId} {sz : Nat} {ext : Bool} {bk : BK} (hb : a.get b = some (.cells ca e sz ext bk)) : qbk a b = .ok (ca, e, sz, ext, bk) := by
 unfold qbk; rw [hb]
theorem qkW {b base : Nat} {ca : List AV} {e : TypeId} {sz : Nat} {ext : Bool} {bk : BK} (hb : a.get b = some (.cells ca e sz ext bk)) {cs : List SV} (hl : base + cs.length <= ca.length)
   (hc : ∀ (j : Nat) s, cs[j]? = some s -> ∃ u, ca[base + j]? = some u /\ SimV C s u) {t off : Nat} {sv : SV} (hp : qg1 tab t cs off = some sv) : ∃ u, Am.loadVar tab a t b (base + off) = .ok u /\ SimV C sv u := by
 unfold qg1 at hp; unfold Am.loadVar; split at hp
 · rename_i hg; split at hp
   · rename_i n hn
     cases hle : Nat.ble (off + n) cs.length
     · rw [hle] at hp; cases hp
     · rw [hle] at hp; cases hp; have hle := Nat.le_of_ble_eq_true hle; rw [rb (show Am.isAgg tab t = .ok true from ro hg)]; simp only [if_true]; rw [rb (show siz tab t = .ok n from ro hn)]; have hr : readN a b (base + off) n = .ok ((ca.drop (base + off)).take n) := by
         unfold readN; rw [rb (qau hb)]; simp only; rw [rb (rc (by simp only [Nat.ble_eq]; omega))]
       rw [rb hr]; refine ⟨_, rfl, .agg (by simp; omega) (fun i s u hs hu => ?_)⟩; rw [List.getElem?_take] at hs hu; split at hs
       · rename_i hi; rw [if_pos hi] at hu; rw [List.getElem?_drop] at hs hu; obtain ⟨w, hw, hsim⟩ := hc _ s hs; rw [<- Nat.add_assoc] at hw; rw [hw] at hu
         cases hu; exact hsim
       · cases hs
   · cases hp
 · rename_i hg; obtain ⟨u, hu, hsim⟩ := hc off sv hp; rw [rb (show Am.isAgg tab t = .ok false from ro hg)]; simp only [Bool.false_eq_true, if_false]; rw [rb (qau hb)]; exact ⟨u, ro hu, hsim⟩
 · cases hp
theorem qiA (H : HS tab C h a) {p : SV} {v : AV} (hv : SimV C p v) {t : TypeId} {K : SV -> Prop} (hl : qqs tab h t p K) : ∃ b off u sv, v = .ptr b off /\ Am.loadVar tab a t b off = .ok u /\ SimV C sv u /\ K sv := by
 unfold qqs at hl; split at hl
 · rename_i b off; split at hl
   · rename_i cs e hb; obtain ⟨sv, hp, hk⟩ := qaK hl
     cases hv with
     | pure h => cases h
     | ptr hI =>
      obtain ⟨_, ca, sz, h2, h3, _⟩ := H.at_ hb hI; obtain ⟨u, h4, h5⟩ := qkW h2 (base := 0) (cs := cs) (by rw [h3.1]; omega) (fun j s hs => by rw [Nat.zero_add]; exact h3.get hs) hp; rw [Nat.zero_add] at h4; exact ⟨_, _, u, sv, rfl, h4, h5, hk⟩
   · exact hl.elim
 · rename_i b i off; split at hl
   · rename_i X L enc e hb; obtain ⟨x, hx, hl⟩ := qaK hl; obtain ⟨sv, hp, hk⟩ := qaK hl
     cases hv with
     | pure h => cases h
     | eptr hI hc =>
      rename_i I; obtain ⟨g1, g2, g3, g4, g5⟩ := H.at_ hb hI; obtain ⟨c, hc'⟩ := Option.isSome_iff_exists.1 hc; rw [hc'] at g5; obtain ⟨ca, ext, bk, k1, k2, k3, k4, k5⟩ := g5; have hlt := (List.getElem?_eq_some_iff.1 hx).1; obtain ⟨u, h4, h5⟩ := qkW k1 (base := i * I.sz) (cs := enc x) (by
       rw [k3, g4 i x hx, <- Nat.succ_mul]; exact Nat.mul_le_mul_right _ hlt) (fun j s hs => by
       obtain ⟨u, q1, q2⟩ := k5 i x j s hx hs; exact ⟨u, q1, .pure q2⟩) hp
      exact ⟨_, _, u, sv, rfl, h4, h5, hk⟩
   · exact hl.elim
 · rename_i cs off; obtain ⟨sv, hp, hk⟩ := qaK hl
   cases hv with
   | pure h =>
     cases h with
     | rptr b base ca e sz ext bk u hb hl h1 h2 =>
      obtain ⟨w, h4, h5⟩ := qkW (H.fz _ _ hb) (base := base) (cs := cs) hl (fun j s hs => ⟨_, h1 j s hs, .pure (h2 j s hs)⟩) hp; exact ⟨_, _, w, sv, rfl, h4, h5, hk⟩
 · exact hl.elim
theorem qbW {s : SV} {v : AV} (h : SimV C s v) (hp : qdI s = true) : SimP C.Fz s v := by
 cases h with
 | pure h => exact h
 | _ => cases hp
theorem qk8 {t : TypeId} {b off n : Nat} {v : AV} {l ca : List AV} {e : TypeId} {sz : Nat} {ext : Bool} {bk : BK} (hn : tab.siz.get t = some n) (hv : v.cells = .ok l) (hl : l.length = n) (hn0 : n ≠ 0)
  (hb : a.get b = some (.cells ca e sz ext bk)) (hbk : (bk ≠ .ro /\ bk ≠ .cold)) (hr : off + n <= ca.length) (h1 : l.all qcf = true) : Am.storeVar tab a t b off v = .ok (a.set b (.cells (qcQ ca off l) e sz ext bk)) := by
 unfold Am.storeVar; rw [rb (show siz tab t = .ok n from ro hn), rb hv, rb (rc (by simp [hl]))]; unfold writeN
 cases l with
 | nil => exact absurd hl.symm hn0
 | cons x l =>
  simp only; rw [rb (qau hb)]; simp only; rw [rb (rc (by simpa using hbk)), rb (rc (by rw [hl]; simp only [Nat.ble_eq]; exact hr)), rb (rc h1)]
theorem qo8 (H : HS tab C h a) {p s : SV} {v w : AV} (hv : SimV C p v) (hw : SimV C s w) {t : TypeId} {K : SH -> Prop} (hl : qo7 tab h t p s K) :
   ∃ b off a' h', v = .ptr b off /\ Am.storeVar tab a t b off w = .ok a' /\ HS tab C h' a' /\ K h' /\ Grow a a' /\ Keep C h a (qqz p) C h' a' := by
 unfold qo7 at hl; split at hl
 · rename_i n hn; obtain ⟨hck, hl⟩ := qaB hl; simp only [Bool.and_eq_true, Bool.not_eq_true'] at hck; obtain ⟨⟨⟨hn0, hkn⟩, hlen⟩, hsc⟩ := hck; have hn0 : n ≠ 0 := fun e => by subst e; simp at hn0
   have hlen := Nat.eq_of_beq_eq_true hlen; obtain ⟨l, hl1, hl2⟩ := qeF hw hkn; have hone := qhY hl2 hsc; have hll : l.length = n := by rw [<- hl2.1, hlen]
   split at hl
   · rename_i b off _; split at hl
     · rename_i cs e hb; obtain ⟨hr, hk⟩ := qaB hl; have hr := Nat.le_of_ble_eq_true hr
       cases hv with
       | pure h => cases h
       | ptr hI =>
        rename_i I; obtain ⟨hc, ca, sz, h2, h3, h3s⟩ := H.at_ hb hI; refine ⟨_, _, _, _, rfl, qk8 hn hl1 hll hn0 h2 (by simp) (by rw [<- h3.1]; exact hr) hone, H.mod hb hI hc (o := .cells (qe4 cs off s.cells) e) ⟨hc, _, sz, by rw [AH.get_set, if_pos rfl], qg0 h3 hl2 off, h3s⟩, hk, ⟨by simp, fun i o hi => ?_⟩, ?_⟩
        · rw [AH.get_set] at hi; split at hi
          · rename_i e'; exact .inl ⟨_, e' ▸ h2⟩
          · exact .inl ⟨_, hi⟩
        · intro q o J hq hJ hcJ hn; have hqb : q ≠ b := fun e' => hn (by simp [qqz, qcy, e'])
          refine ⟨?_, .inl ⟨o, by rw [SH.get_set, if_neg hqb]; exact hq, hJ⟩⟩; rw [AH.get_set, if_neg]; intro e'; exact hqb (H.inj q _ o _ J I hq hb hJ hI hcJ hc e')
     · exact hl.elim
   · exact hl.elim
 · exact hl.elim
end
end Go.Sy
namespace Go.Sy
open Go.Am Go.RowKit
universe u v
variable [Inhabited DrP]
section
variable {tab : Tab} {C : Cx} {h : SH} {a : AH}
theorem qsk : ∀ (d : Nat) (t : TypeId) (x y : SV) (u w : AV) (p : Bool), eqTS tab d t x y = some p -> SimV C x u -> SimV C y w -> eqT tab d t u w = .ok p := by
 intro d; induction d with
 | zero => intro t x y u w p h; simp only [eqTS] at h; cases h
 | succ d ih =>
  have hgo : ∀ (fs : List Field) (xs ys : List SV) (us ws : List AV) (p : Bool), eqFS tab (eqTS tab d) fs xs ys = some p -> SimL C xs us -> SimL C ys ws -> eqFields tab (eqT tab d) us ws fs = .ok p := by
   intro fs; induction fs with
   | nil => intro xs ys us ws p h _ _; simp only [eqFS, Option.some.injEq] at h; subst h; rfl
   | cons f fs ihf =>
     intro xs ys us ws p h hx hy; simp only [eqFS] at h; simp only [eqFields]; by_cases hn : f.name = "_"
     · simp only [hn, decide_true, cond_true] at h; simp only [hn, ne_eq, not_true_eq_false, if_false]; exact ihf xs ys us ws p h hx hy
     · simp only [hn, decide_false, cond_false] at h; simp only [ne_eq, hn, not_false_eq_true, if_true]; split at h
       · rename_i s1 s2 h1 h2; split at h
         · rename_i p1 q1 h3 h4
           cases h; obtain ⟨v1, g1, k1⟩ := qd3 hx h1; obtain ⟨v2, g2, k2⟩ := qd3 hy h2; rw [rb g1, rb g2, rb (ih _ _ _ _ _ _ h3 k1 k2)]
           cases p1 with
           | true => simp only [if_true, Bool.true_and]; exact ihf xs ys us ws q1 h4 hx hy
           | false => simp only [Bool.false_eq_true, if_false, Bool.false_and]
         · cases h
       · cases h
  intro t x y u w p h hx hy; unfold eqTS at h; split at h
  all_goals first
   | (cases h; done)
   | skip
  all_goals (rename_i hg)
  case h_1 => 
   cases h; cases hx with
   | pure hx => cases hx with
     | bool => cases hy with
       | pure hy => cases hy with
         | bool => simp only [eqT]; rw [rb (show und tab t = _ from ro hg)]
  case h_2 =>
   rename_i k1 a1 k2 a2
   cases hk : decide (k1 = k2)
   · rw [hk] at h; cases h
   · rw [hk] at h; cases h; have hk := of_decide_eq_true hk
     cases hx with
     | pure hx => cases hx with
       | int => cases hy with
         | pure hy => cases hy with
           | int => simp only [eqT]; rw [rb (show und tab t = _ from ro hg)]; simp only [hk, if_true]
  case h_3 =>
   cases h; cases hx with
   | pure hx => cases hx with
     | str => cases hy with
       | pure hy => cases hy with
         | str => simp only [eqT]; rw [rb (show und tab t = _ from ro hg)]
  case h_4 =>
   cases h; cases hx with
   | pure hx => cases hx with
     | nilp => cases hy with
       | pure hy => cases hy with
         | nilp => simp only [eqT]; rw [rb (show und tab t = _ from ro hg)]
  case h_5 =>
   cases h; cases hx with
   | pure hx => cases hx with
     | nilp => cases hy with
       | pure hy => cases hy
       | ptr hI => simp only [eqT]; rw [rb (show und tab t = _ from ro hg)]
  case h_6 =>
   cases h; cases hx with
   | pure hx => cases hx
   | ptr hI => cases hy with
     | pure hy => cases hy with
       | nilp => simp only [eqT]; rw [rb (show und tab t = _ from ro hg)]
  case h_7 =>
   cases h; cases hx with
   | pure hx => cases hx with
     | wp => cases hy with
       | pure hy => cases hy with
         | nilp => simp only [eqT]; rw [rb (show und tab t = _ from ro hg)]
  case h_8 =>
   cases h; cases hx with
   | pure hx => cases hx with
     | nilp => cases hy with
       | pure hy => cases hy with
         | wp => simp only [eqT]; rw [rb (show und tab t = _ from ro hg)]
  case h_9 =>
   cases h; cases hx with
   | pure hx => cases hx with
     | nils => cases hy with
       | pure hy => cases hy with
         | nils => simp only [eqT]; rw [rb (show und tab t = _ from ro hg)]
  case h_10 =>
   cases h; cases hx with
   | pure hx => cases hx with
     | nilm => cases hy with
       | pure hy => cases hy with
         | nilm => simp only [eqT]; rw [rb (show und tab t = _ from ro hg)]
  case h_11 => cases hy with
   | pure hy => cases hy
  case h_12 => cases hx with
   | pure hx => cases hx
  case h_13 =>
   cases h; cases hx with
   | pure hx => cases hx with
     | nilf => cases hy with
       | pure hy => cases hy with
         | nilf => simp only [eqT]; rw [rb (show und tab t = _ from ro hg)]
  case h_14 =>
   cases h; cases hx with
   | pure hx => cases hx with
     | nilf => cases hy with
       | pure hy => cases hy with
         | fn => simp only [eqT]; rw [rb (show und tab t = _ from ro hg)]
       | fn => simp only [eqT]; rw [rb (show und tab t = _ from ro hg)]
  case h_15 =>
   cases h; cases hy with
   | pure hy => cases hy with
     | nilf => cases hx with
       | pure hx => cases hx with
         | fn => simp only [eqT]; rw [rb (show und tab t = _ from ro hg)]
       | fn => simp only [eqT]; rw [rb (show und tab t = _ from ro hg)]
  case h_16 =>
   split at h
   · rename_i hh; have hA : ∀ {cs : List SV} {v : AV}, SimV C (.agg cs) v -> ∃ us, v = .agg us /\ SimL C cs us := by
       intro cs v hv
       cases hv with
       | pure hv => cases hv with
         | agg h1 h2 => exact ⟨_, rfl, h1, fun i s v hs hv => .pure (h2 i s v hs hv)⟩
       | agg h1 h2 => exact ⟨_, rfl, h1, h2⟩
     obtain ⟨us, e1, h1⟩ := hA hx; obtain ⟨ws, e2, h2⟩ := hA hy; subst e1; subst e2; simp only [eqT]; rw [rb (show und tab t = _ from ro hg)]; simp only [hh]; exact hgo _ _ _ _ _ _ h h1 h2
   · cases h
theorem qdy {cs : List SV} {v : AV} (hv : SimV C (.agg cs) v) : ∃ us, v = .agg us /\ SimL C cs us := by
 cases hv with
 | pure hv => cases hv with
  | agg h1 h2 => exact ⟨_, rfl, h1, fun i s v hs hv => .pure (h2 i s v hs hv)⟩
 | agg h1 h2 => exact ⟨_, rfl, h1, h2⟩
theorem qml {cs : List SV} {v : AV} (hv : SimV C (.tup cs) v) : ∃ us, v = .tup us /\ SimL C cs us := by
 cases hv with
 | pure hv => cases hv with
  | tup h1 h2 => exact ⟨_, rfl, h1, fun i s v hs hv => .pure (h2 i s v hs hv)⟩
 | tup h1 h2 => exact ⟨_, rfl, h1, h2⟩
theorem qbL {k : IntKind} {n : Int} {v : AV} (hv : SimV C (.int k n) v) : v = .int k n := by
 cases hv with
 | pure hv => cases hv; rfl
theorem qbA {s : List UInt8} {v : AV} (hv : SimV C (.str s) v) : v = .str s := by
 cases hv with
 | pure hv => cases hv; rfl
theorem qcp {b : Bool} {v : AV} (hv : SimV C (.bool b) v) : v = .bool b := by
 cases hv with
 | pure hv => cases hv; rfl
theorem qdh {v : AV} (hv : SimV C .nils v) : v = .nils := by
 cases hv with
 | pure hv => cases hv; rfl
theorem qan (x y : Int) : ltI x y = decide (x < y) := by
 rw [Bool.eq_iff_iff, decide_eq_true_eq]; unfold ltI
 cases x with
 | ofNat a => cases y with
  | ofNat b => simp
  | negSucc b => simp; omega
 | negSucc a => cases y with
  | ofNat b => simp; omega
  | negSucc b => simp; omega
theorem qaX (x y : Int) : leI x y = decide (x <= y) := by
 rw [Bool.eq_iff_iff, decide_eq_true_eq]; unfold leI
 cases x with
 | ofNat a => cases y with
  | ofNat b => simp
  | negSucc b => simp; omega
 | negSucc a => cases y with
  | ofNat b => simp; omega
  | negSucc b => simp; omega
theorem qpg {k : IntKind} {n : Int} (h : inR k n = true) : k.wrap n = n := by
 unfold inR at h; rw [qaX, qaX] at h; simp only [Bool.and_eq_true, decide_eq_true_eq] at h; obtain ⟨h1, h2⟩ := h
 cases k <;> simp only [loI, hiI, IntKind.wrap, IntKind.signed, IntKind.bits] at * <;> simp at * <;> omega
theorem qmg {r : R AV} {s : SV} (h : sOf r = some s) : ∃ v, r = .ok v /\ SimV C s v := by
 cases r with
 | no w => cases h
 | ok v => exact ⟨v, rfl, qoF h⟩
theorem qsi {t : TypeId} {x y : SV} {u w : AV} {p : Bool} (h : eqTS tab 8 t x y = some p) (hx : SimV C x u) (hy : SimV C y w) (hg : ∀ a b, x = .agg a -> y = .agg b -> tab.grd.get t = some false) : eqOp tab a t u w = .ok p := by
 have hh := qsk 8 t x y u w p h hx hy; have e : ∀ (u w : AV), (∀ b i c j, u = .ptr b i -> w = .ptr c j -> False) -> (∀ a b, u = .agg a -> w = .agg b -> False) -> (u = .nili -> w = .nili -> False) -> eqOp tab a t u w = eqT tab 8 t u w := by
  intro u w h1 h2 h3; unfold eqOp; split
  · exact (h1 _ _ _ _ rfl rfl).elim
  · exact (h2 _ _ rfl rfl).elim
  · exact (h3 rfl rfl).elim
  · rfl
 have h0 := h; unfold eqTS at h; split at h
 case h_17 => cases h
 case h_16 =>
  obtain ⟨us, rfl, _⟩ := qdy hx; obtain ⟨ws, rfl, _⟩ := qdy hy; unfold eqOp; simp only [hg _ _ rfl rfl]; exact hh
 all_goals
  rw [e u w ?_ ?_ ?_]
  · exact hh
  all_goals (intros; subst_vars)
  all_goals first
    | (cases hx with
     | pure hx => cases hx
     | _ => (cases hy with
      | pure hy => cases hy))
    | (cases hx with
     | pure hx => cases hx)
    | (cases hy with
     | pure hy => cases hy)
    | skip
end
end Go.Sy
namespace Go.Sy
open Go.Am Go.RowKit
universe u v
variable [Inhabited DrP]
section
variable {tab : Tab} {C : Cx} {h : SH} {a : AH}
def Val (C : Cx) (K : SV -> Prop) (r : R AV) : Prop := ∃ s v, r = .ok v /\ SimV C s v /\ K s
theorem Val.pure {K : SV -> Prop} {s : SV} {v : AV} (h : SimP C.Fz s v) (hk : K s) : Val C K (.ok v) := ⟨s, v, rfl, .pure h, hk⟩
theorem qoX {op : BinOp} {k : IntKind} {x y : Int} {K : SV -> Prop} (h : qoW op k x y K) : Val C K (intOp op k x y) := by
 have fit : ∀ n : Int, (bif k.signed then ck (inR k n) (K (.int k n)) else K (.int k (k.wrap n))) -> Val C K (.ok (.int k (k.wrap n))) := by
  intro n hn
  cases hs : k.signed
  · rw [hs] at hn; exact Val.pure (.int k _) hn
  · rw [hs] at hn; obtain ⟨h1, h2⟩ := qaB hn; rw [qpg h1]; exact Val.pure (.int k _) h2
 unfold qoW at h
 cases op
 case add => exact fit _ h
 case sub => exact fit _ h
 case mul => exact fit _ h
 case quo =>
  obtain ⟨h1, h2⟩ := qaB h; have hy : ¬ y = 0 := by simpa using h1
  simp only [intOp, if_neg hy]; exact fit _ h2
 case rem =>
  obtain ⟨h1, h2⟩ := qaB h; have hy : ¬ y = 0 := by simpa using h1
  simp only [intOp, if_neg hy]; exact Val.pure (.int k _) h2
 case eql => exact Val.pure (.bool _) h
 case neq => exact Val.pure (.bool _) h
 case lss => have h : K (.bool (ltI x y)) := h; rw [qan] at h; exact Val.pure (.bool _) h
 case leq => have h : K (.bool (leI x y)) := h; rw [qaX] at h; exact Val.pure (.bool _) h
 case gtr => have h : K (.bool (ltI y x)) := h; rw [qan] at h; exact Val.pure (.bool _) h
 case geq => have h : K (.bool (leI y x)) := h; rw [qaX] at h; exact Val.pure (.bool _) h
 all_goals
  obtain ⟨s, h1, h2⟩ := qaK h; obtain ⟨v, h3, h4⟩ := qmg h1; exact ⟨s, v, h3, h4, h2⟩
theorem qlO {t : TypeId} {x y : SV} {p : Bool} {u w : AV} (h : eqTS tab 8 t x y = some p) (hx : SimV C x u) (hy : SimV C y w) :
  (∃ k m j n, x = .int k m /\ y = .int j n) \/ (∃ s s', x = .str s /\ y = .str s') \/
   (Am.binOp tab a .eql t u w = (do .ok (.bool (<- eqOp tab a t u w)) : R AV) /\ Am.binOp tab a .neq t u w = (do .ok (.bool (!(<- eqOp tab a t u w))) : R AV)) := by
 have key : (∀ k m j n, u = .int k m -> w = .int j n -> False) -> (∀ s s', u = .str s -> w = .str s' -> False) ->
   (Am.binOp tab a .eql t u w = (do .ok (.bool (<- eqOp tab a t u w)) : R AV) /\ Am.binOp tab a .neq t u w = (do .ok (.bool (!(<- eqOp tab a t u w))) : R AV)) := by
  intro h1 h2; constructor <;> (unfold Am.binOp; split <;> first | contradiction | (exact (h1 _ _ _ _ rfl rfl).elim) | (exact (h2 _ _ rfl rfl).elim) | rfl | (rename_i hh _; cases hh) | skip)
 unfold eqTS at h; split at h
 case h_2 => exact .inl ⟨_, _, _, _, rfl, rfl⟩
 case h_3 => exact .inr (.inl ⟨_, _, rfl, rfl⟩)
 case h_17 => cases h
 all_goals
  refine .inr (.inr (key ?_ ?_))
  all_goals (intros; subst_vars)
  all_goals first
   | (cases hx with
    | pure hx => cases hx)
   | (cases hy with
    | pure hy => cases hy)
   | (cases hx)
   | skip
theorem qoY {op : BinOp} {t : TypeId} {x y : SV} {K : SV -> Prop} {u w : AV} (h : sbin tab op t x y K) (hx : SimV C x u) (hy : SimV C y w) : Val C K (Am.binOp tab a op t u w) := by
 have eqK : ∀ {p : Bool}, eqTS tab 8 t x y = some p -> (∀ a b, x = .agg a -> y = .agg b -> tab.grd.get t = some false) -> eqOp tab a t u w = .ok p := fun h1 h2 => qsi h1 hx hy h2
 unfold sbin at h; split at h
 ·
   rw [qbL hx, qbL hy]; rename_i k a1 j b1; obtain ⟨h1, h2⟩ := qaB h; obtain ⟨s, h3, h4⟩ := qaK h2
   cases b1 with
   | negSucc m => cases h1
   | ofNat m =>
     obtain ⟨v, h5, h6⟩ := qmg (C := C) h3
     cases h5; refine ⟨s, _, ?_, h6, h4⟩; simp only [Am.binOp, shiftOp]; rw [if_neg (by simp)]
 ·
   rw [qbL hx, qbL hy]; rename_i k a1 j b1; obtain ⟨h1, h2⟩ := qaB h; obtain ⟨s, h3, h4⟩ := qaK h2
   cases b1 with
   | negSucc m => cases h1
   | ofNat m =>
     obtain ⟨v, h5, h6⟩ := qmg (C := C) h3
     cases h5; refine ⟨s, _, ?_, h6, h4⟩; simp only [Am.binOp, shiftOp]; rw [if_neg (by simp)]
 ·
   rename_i k a1 j b1 hn1 hn2; rw [qbL hx, qbL hy]; obtain ⟨h1, h2⟩ := qaB h; have hk : k = j := of_decide_eq_true h1; subst hk; have := qoX (C := C) h2
   cases op <;> simp only [Am.binOp, if_true] <;> first | exact this | exact (hn1 rfl).elim | exact (hn2 rfl).elim
 · obtain ⟨h1, h2⟩ := qaB h; rw [qbA hx, qbA hy]; simp only [Am.binOp, strOp]; rw [if_pos (Nat.le_of_ble_eq_true h1)]; exact Val.pure (.str _) h2
 · rw [qbA hx, qbA hy]; exact Val.pure (.bool _) h
 · rw [qbA hx, qbA hy]; exact Val.pure (.bool _) h
 · rw [qbA hx, qbA hy]; exact Val.pure (.bool _) h
 · rw [qbA hx, qbA hy]; exact Val.pure (.bool _) h
 · rw [qbA hx, qbA hy]; exact Val.pure (.bool _) h
 · rw [qbA hx, qbA hy]; exact Val.pure (.bool _) h
 · split at h
   · rename_i hg; obtain ⟨p, h1, h2⟩ := qaK h; have he := eqK h1 (fun _ _ _ _ => hg); obtain ⟨us, rfl, _⟩ := qdy hx; obtain ⟨ws, rfl, _⟩ := qdy hy; simp only [Am.binOp]; rw [rb he]; exact Val.pure (.bool _) h2
   · exact h.elim
 · split at h
   · rename_i hg; obtain ⟨p, h1, h2⟩ := qaK h; have he := eqK h1 (fun _ _ _ _ => hg); obtain ⟨us, rfl, _⟩ := qdy hx; obtain ⟨ws, rfl, _⟩ := qdy hy; simp only [Am.binOp]; rw [rb he]; exact Val.pure (.bool _) h2
   · exact h.elim
 · rename_i n1 n2 n3; obtain ⟨p, h1, h2⟩ := qaK h; have he := eqK h1 (fun a b e1 e2 => (n3 a b e1 e2).elim); have hb : Am.binOp tab a .eql t u w = (do .ok (.bool (<- eqOp tab a t u w)) : R AV) := by
     rcases qlO h1 hx hy with ⟨k, m, j, n, rfl, rfl⟩ | ⟨s1, s2, rfl, rfl⟩ | hne
     · exact (n1 _ _ _ _ rfl rfl).elim
     · exact (n2 _ _ rfl rfl).elim
     · exact hne.1
   rw [hb, rb he]; exact Val.pure (.bool _) h2
 · rename_i n1 n2 n3; obtain ⟨p, h1, h2⟩ := qaK h; have he := eqK h1 (fun a b e1 e2 => (n3 a b e1 e2).elim); have hb : Am.binOp tab a .neq t u w = (do .ok (.bool (!(<- eqOp tab a t u w))) : R AV) := by
     rcases qlO h1 hx hy with ⟨k, m, j, n, rfl, rfl⟩ | ⟨s1, s2, rfl, rfl⟩ | hne
     · exact (n1 _ _ _ _ rfl rfl).elim
     · exact (n2 _ _ rfl rfl).elim
     · exact hne.2
   rw [hb, rb he]; exact Val.pure (.bool _) h2
 · exact h.elim
end
end Go.Sy
namespace Go.Sy
open Go.Am Go.RowKit
universe u v
variable [Inhabited DrP]
section
variable {tab : Tab} {C : Cx} {h : SH} {a : AH}
theorem qrM {op : UnOp} {x : SV} {K : SV -> Prop} {u : AV} (h : sun op x K) (hx : SimV C x u) : Val C K (Am.unOp op u) := by
 unfold sun at h; split at h
 · rename_i k n; rw [qbL hx]; simp only [Am.unOp]
   cases hs : k.signed
   · rw [hs] at h; exact Val.pure (.int k _) h
   · rw [hs] at h; obtain ⟨h1, h2⟩ := qaB h; rw [qpg h1]; exact Val.pure (.int k _) h2
 · rw [qbL hx]; obtain ⟨s, h1, h2⟩ := qaK h; obtain ⟨v, h3, h4⟩ := qmg h1; exact ⟨s, v, h3, h4, h2⟩
 · rw [qcp hx]; exact Val.pure (.bool _) h
 · exact h.elim
theorem qgU {x : SV} {K : Nat -> Prop} {u : AV} (h : natS x K) (hx : SimV C x u) : ∃ n, asNat u = .ok n /\ K n := by
 unfold natS at h; split at h
 · rename_i k n; obtain ⟨h1, h2⟩ := qaB h; rw [qbL hx]
   cases n with
   | negSucc m => cases h1
   | ofNat m => exact ⟨m, rfl, h2⟩
 · exact h.elim
theorem qe7 {ts : Fr} {ta : T AV} (hF : FS C ts ta) : ∀ {l : List (Nat × Operand)} {m : List (Nat × SV)}, qhR ts l = some m -> ∃ vs, qcd ta l = .ok vs /\ vs.map (·.1) = m.map (·.1) /\ SimL C (m.map (·.2)) (vs.map (·.2)) := by
 intro l; induction l with
 | nil => intro m h; simp only [qhR, Option.some.injEq] at h; subst h; exact ⟨[], rfl, rfl, SimL.nil⟩
 | cons x l ih =>
  obtain ⟨i, x⟩ := x; intro m h; simp only [qhR] at h; split at h
  · rename_i s r h1 h2
    cases h; obtain ⟨v, hv, g1⟩ := qcJ hF h1; obtain ⟨vs, hvs, g2, g3⟩ := ih h2; refine ⟨(i, v) :: vs, ?_, by simp [g2], SimL.cons g1 g3⟩; simp only [qcd]; rw [rb hv, rb hvs]
  · cases h
theorem qf8 : ∀ {ps : List (Nat × Nat × SV)} {qs : List (Nat × Nat × AV)} {cs : List SV} {ca : List AV} {r : List SV}, SimL C cs ca -> qs.map (fun x => (x.1, x.2.1)) = ps.map (fun x => (x.1, x.2.1)) -> SimL C (ps.map (·.2.2)) (qs.map (·.2.2)) -> qkC cs ps = some r ->
  ∃ ra, fill ca qs = .ok ra /\ SimL C r ra := by
 intro ps; induction ps with
 | nil =>
  intro qs cs ca r hc hq _ h; simp only [qkC, Option.some.injEq] at h; subst h
  cases qs with
  | nil => exact ⟨ca, rfl, hc⟩
  | cons q qs => simp at hq
 | cons x ps ih =>
  intro qs cs ca r hc hq hs h
  cases qs with
  | nil => simp at hq
  | cons q qs =>
   obtain ⟨off, n, s⟩ := x; obtain ⟨off', n', v⟩ := q; simp only [List.map_cons, List.cons.injEq, Prod.mk.injEq] at hq; obtain ⟨⟨rfl, rfl⟩, hq⟩ := hq; simp only [List.map_cons] at hs; obtain ⟨hv, hs⟩ := hs.head; simp only [qkC] at h
   cases hb : (s.known && Nat.beq s.cells.length n' && Nat.ble (off' + n') cs.length)
   · rw [hb] at h; cases h
   · rw [hb] at h; simp only [cond_true] at h; simp only [Bool.and_eq_true] at hb; obtain ⟨⟨hk, hl⟩, hr⟩ := hb; obtain ⟨l, h1, h2⟩ := qeF hv hk; obtain ⟨ra, h3, h4⟩ := ih (qg0 hc h2 off') hq hs h; refine ⟨ra, ?_, h4⟩; simp only [fill]; rw [rb h1, rb (rc (by rw [<- h2.1, hl, <- hc.1, hr]; rfl))]; exact h3
theorem qnc (fs : Array Field) : ∀ {ps : List (Nat × SV)} {vs : List (Nat × AV)} {r : List (Nat × Nat × SV)}, vs.map (·.1) = ps.map (·.1) -> SimL C (ps.map (·.2)) (vs.map (·.2)) -> qg3 tab fs ps = some r ->
  ∃ ra, qbF tab fs vs = .ok ra /\ ra.map (fun x => (x.1, x.2.1)) = r.map (fun x => (x.1, x.2.1)) /\ SimL C (r.map (·.2.2)) (ra.map (·.2.2)) := by
 intro ps; induction ps with
 | nil =>
  intro vs r hv _ h; simp only [qg3, Option.some.injEq] at h; subst h
  cases vs with
  | nil => exact ⟨[], rfl, rfl, SimL.nil⟩
  | cons q qs => simp at hv
 | cons x ps ih =>
  intro vs r hv hs h
  cases vs with
  | nil => simp at hv
  | cons q vs =>
   obtain ⟨i, s⟩ := x; obtain ⟨i', v⟩ := q; simp only [List.map_cons, List.cons.injEq] at hv; obtain ⟨rfl, hv⟩ := hv; simp only [List.map_cons] at hs; obtain ⟨hsv, hs⟩ := hs.head; simp only [qg3] at h; split at h
   · rename_i f hf; split at h
     · rename_i n r' hn hr
       cases h; obtain ⟨ra, h1, h2, h3⟩ := ih hv hs hr; refine ⟨(f.offset, n, v) :: ra, ?_, by simp [h2], SimL.cons hsv h3⟩; simp only [qbF]; rw [rb (show R.of "field" _ = .ok f from ro hf), rb (show siz tab f.type = .ok n from ro hn), rb h1]
     · cases h
   · cases h
theorem qi0 {t : TypeId} {ps : List (Nat × SV)} {vs : List (Nat × AV)} {s : SV} (hv : vs.map (·.1) = ps.map (·.1)) (hs : SimL C (ps.map (·.2)) (vs.map (·.2))) (h : qnw tab t ps = some s) : ∃ v, Am.build tab t vs = .ok v /\ SimV C s v := by
 unfold qnw at h; unfold Am.build; split at h
 · rename_i z fs hz hu; obtain ⟨zv, zc, g1, g2, g3⟩ := qdp (C := C) hz; rw [rb g1, rb g2, rb (show und tab t = _ from ro hu)]
   cases hb : fs.toList.all (fun f => (tab.siz.get f.type).isSome)
   · rw [hb] at h; cases h
   · rw [hb] at h; simp only [cond_true] at h; split at h
     · rename_i q hq; obtain ⟨r, hr, rfl⟩ := Option.map_eq_some_iff.1 h; obtain ⟨ra, h1, h2, h3⟩ := qnc fs hv hs hq; obtain ⟨rb', h4, h5⟩ := qf8 g3 h2 h3 hr; simp only; rw [rb (rc hb), rb h1, rb h4]; exact ⟨_, rfl, .agg h5.1 h5.2⟩
     · cases h
 · rename_i z n e hz hu; split at h
   · rename_i m hm; obtain ⟨r, hr, rfl⟩ := Option.map_eq_some_iff.1 h; obtain ⟨zv, zc, g1, g2, g3⟩ := qdp (C := C) hz; rw [rb g1, rb g2, rb (show und tab t = _ from ro hu)]; simp only; rw [rb (show siz tab e = _ from ro hm)]; obtain ⟨rb', h4, h5⟩ := qf8 (qs := vs.map fun x => (x.1 * m, m, x.2)) g3 (by
       simp only [List.map_map]; have := congrArg (List.map (fun i => (i * m, m))) hv; simpa [List.map_map, Function.comp_def] using this) (by simpa [List.map_map, Function.comp_def] using hs) hr
     rw [rb h4]; exact ⟨_, rfl, .agg h5.1 h5.2⟩
   · cases h
 · cases h
def optV (o : Option Nat) (d : R Nat) : R Nat := match o with | none => d | some n => .ok n
theorem qiE {ts : Fr} {ta : T AV} (hF : FS C ts ta) {x : Option Operand} {K : Option Nat -> Prop} (h : natO ts x K) : ∃ o, K o /\ ∀ d : R Nat, qaS ta d x = optV o d /\ (x = none ↔ o = none) := by
 unfold natO at h; split at h
 · exact ⟨none, h, fun d => ⟨rfl, by simp⟩⟩
 · obtain ⟨v, h1, h2⟩ := qaK h; obtain ⟨u, h3, h4⟩ := qcJ hF h1; obtain ⟨n, h5, h6⟩ := qgU h2 h4; refine ⟨some n, h6, fun d => ⟨?_, by simp⟩⟩; simp only [qaS]; rw [rb h3]; exact h5
end
end Go.Sy
namespace Go.Sy
open Go.Am Go.RowKit
universe u v
variable [Inhabited DrP]
section
variable {tab : Tab} {C : Cx} {h : SH} {a : AH}
theorem qfq {α : Type u} {l : List α} {lo hi : Option Nat} {K : List α -> Prop} (h : cutL l lo hi K) : lo.getD 0 <= hi.getD l.length /\ hi.getD l.length <= l.length /\ K ((l.drop (lo.getD 0)).take (hi.getD l.length - lo.getD 0)) := by
 unfold cutL at h; split at h
 · simpa using h
 · rename_i a; obtain ⟨h1, h2⟩ := qaB h; have h1 := Nat.le_of_ble_eq_true h1; refine ⟨by simpa using h1, by simp, ?_⟩; simp only [Option.getD_some, Option.getD_none]; rw [List.take_of_length_le (by simp)]; exact h2
 · rename_i b; obtain ⟨h1, h2⟩ := qaB h; have h1 := Nat.le_of_ble_eq_true h1; refine ⟨by simp, by simpa using h1, by simpa using h2⟩
 · rename_i a b; obtain ⟨h1, h2⟩ := qaB h; simp only [Bool.and_eq_true] at h1; exact ⟨by simpa using Nat.le_of_ble_eq_true h1.1, by simpa using Nat.le_of_ble_eq_true h1.2, h2⟩
theorem ql1 {X : Type} {L : List X} {enc : X -> List SV} {v : AV} {Fz : Nat -> Option AO} (hv : SimP Fz (.lst X L enc) v) (hL : L ≠ []) : ∃ b off cap cs e sz ext bk, v = .sl b off L.length cap /\ CellsAt Fz b cs e sz ext bk /\ 0 < sz /\ off + L.length * sz <= cs.length /\
  (∀ (i : Nat) x, L[i]? = some x -> (enc x).length = sz) /\ qi5 cap off L.length sz ext /\ ∀ (i : Nat) x (j : Nat) v, L[i]? = some x -> (enc x)[j]? = some v -> ∃ u, cs[off + i * sz + j]? = some u /\ SimP Fz v u := by
 cases hv with
 | lst0 h0 _ => exact absurd (List.eq_nil_of_length_eq_zero h0) hL
 | lst b off cap cs e sz ext bk u hb hs hl hn hc h1 h2 => exact ⟨b, off, cap, cs, e, sz, ext, bk, rfl, hb, hs, hl, hn, hc, fun i x j v hx hv => ⟨_, h1 i x j v hx hv, h2 i x j v hx hv⟩⟩
theorem ql0 {X : Type} {L : List X} {enc : X -> List SV} {Fz : Nat -> Option AO} (b off : Nat) (cap : Cap) (cs : List AV) (e : TypeId) (sz : Nat) (ext : Bool) (bk : BK) (n : Nat) (hn' : n = L.length)
   (hb : CellsAt Fz b cs e sz ext bk) (hs : 0 < sz) (hl : off + L.length * sz <= cs.length) (hn : ∀ (i : Nat) x, L[i]? = some x -> (enc x).length = sz) (hc : qi5 cap off L.length sz ext)
   (h1 : ∀ (i : Nat) x (j : Nat) v, L[i]? = some x -> (enc x)[j]? = some v -> ∃ u, cs[off + i * sz + j]? = some u /\ SimP Fz v u) : SimP Fz (.lst X L enc) (.sl b off n cap) := by
 subst hn'; refine .lst b off cap cs e sz ext bk (fun i j => (cs[off + i * sz + j]?).getD (.tup [])) hb hs hl hn hc ?_ ?_
 · intro i x j v hx hv; obtain ⟨u, h2, _⟩ := h1 i x j v hx hv; rw [h2]; rfl
 · intro i x j v hx hv; obtain ⟨u, h2, h3⟩ := h1 i x j v hx hv; rw [h2]; exact h3
theorem qfd {ta : T AV} {t e n : Nat} (hu : tab.und.get t = some (.slice e)) (hn : tab.siz.get e = some n) {X : Type} {L : List X} {enc : X -> List SV} {v : AV} {Fz : Nat -> Option AO} (hfz : ∀ i o, Fz i = some o -> a.get i = some o) (hv : SimP Fz (.lst X L enc) v)
  (hlen : ∀ x : X, (enc x).length = n) {lo hi : Option Operand} {l u : Option Nat} (h1 : ∀ d : R Nat, qaS ta d lo = optV l d) (h2 : ∀ d : R Nat, qaS ta d hi = optV u d)
  (hle : l.getD 0 <= u.getD L.length) (hle2 : u.getD L.length <= L.length) : ∃ w, qbm tab ta a t v lo hi none = .ok (w, a) /\ SimP Fz (.lst X ((L.drop (l.getD 0)).take (u.getD L.length - l.getD 0)) enc) w := by
 by_cases hL : 0 < L.length
 case neg =>
  have hL0 : L.length = 0 := by omega
  have o1 : qaS ta (.ok 0) lo = .ok (l.getD 0) := by rw [h1]; cases l <;> rfl
  have o2 : ∀ d, qaS ta (.ok d) hi = .ok (u.getD d) := by intro d; rw [h2]; cases u <;> rfl
  rw [hL0] at hle hle2; have hu0 : u.getD 0 = 0 := by omega
  have hl0 : l.getD 0 = 0 := by omega
  have hr : ((L.drop (l.getD 0)).take (u.getD L.length - l.getD 0)).length = 0 := by simp; omega
  rw [hl0] at o1; unfold qbm; rw [rb (show und tab t = _ from ro hu)]
  cases hv with
  | lst0 h0 hv =>
   rcases hv with rfl | ⟨b, off, l1, n1, k, rfl⟩ | ⟨a', c, rfl⟩
   · refine ⟨.nils, ?_, .lst0 hr (.inl rfl)⟩; simp only; rw [rb (show siz tab e = .ok n from ro hn), rb o1, rb (o2 0), hu0]; rfl
   · refine ⟨.emp b off l1 n1 k, ?_, .lst0 hr (.inr (.inl ⟨_, _, _, _, _, rfl⟩))⟩; simp only; rw [rb (show siz tab e = .ok n from ro hn), rb o1, rb (o2 0), hu0]; rfl
   · refine ⟨.raw (.slice a' 0 c), ?_, .lst0 hr (.inr (.inr ⟨_, _, rfl⟩))⟩; simp only; rw [rb (show siz tab e = .ok n from ro hn), rb o1, rb (o2 0), hu0]; rfl
  | lst b off cap cs e' sz ext bk w hb hs hl hn' hc h1' h2' =>
   obtain ⟨sz0, ext0, hb0, hx0⟩ := id hb; have hcl := qau (hfz _ _ hb0); rw [hL0] at hc ⊢; simp only
   cases cap with
   | lit m =>
     rw [rb (show capLow a b (.lit m) = .ok m from rfl), rb (show siz tab e = .ok n from ro hn), rb o1, rb (o2 0), hu0]; simp only; rw [rb (rc (by simp))]; refine ⟨_, rfl, ?_⟩; have : (SimP Fz (.lst X ((L.drop (l.getD 0)).take (0 - l.getD 0)) enc) (.sl b off ((L.drop (l.getD 0)).take (0 - l.getD 0)).length (.lit m))) := by
       refine .lst b off (.lit m) cs e' sz ext bk w hb hs (by simp [hL0] at *; omega) (fun i x hx => ?_) (by simp [qi5]) (fun i x j v hx => ?_) (fun i x j v hx => ?_)
       all_goals (simp at hx)
     simp at this ⊢; exact this
   | tail k =>
     obtain ⟨hext, hoff⟩ := hc; subst hext; obtain ⟨hz1, hz2⟩ := hx0 rfl; have hz1 := hz1.symm; subst hz1; subst hz2; have hcap : capLow a b (.tail k) = .ok (cs.length / sz - k) := by
       simp only [capLow]; rw [rb hcl]; simp only; rw [rb (rc (by simp only [Bool.true_and, Bool.not_eq_true']; exact qa4 (by omega)))]; rfl
     rw [rb hcap, rb (show siz tab e = .ok n from ro hn), rb o1, rb (o2 0), hu0]; simp only; rw [rb (rc (by simp))]; refine ⟨_, rfl, ?_⟩; have : (SimP Fz (.lst X ((L.drop (l.getD 0)).take (0 - l.getD 0)) enc) (.sl b off ((L.drop (l.getD 0)).take (0 - l.getD 0)).length (.tail k))) := by
       refine .lst b off (.tail k) cs e' sz true bk w hb hs (by simp [hL0] at *; omega) (fun i x hx => ?_) ⟨rfl, hoff⟩ (fun i x j v hx => ?_) (fun i x j v hx => ?_)
       all_goals (simp at hx)
     simp at this ⊢; exact this
 case pos =>
  obtain ⟨b, off, cap, cs, e', sz, ext, bk, rfl, hb, hs, hl, hsz, hc, hcell⟩ := ql1 hv (by rintro rfl; simp at hL); have hszn : sz = n := by
   rw [<- hsz 0 _ (List.getElem?_eq_getElem hL), hlen]
  subst hszn; have o1 : qaS ta (.ok 0) lo = .ok (l.getD 0) := by rw [h1]; cases l <;> rfl
  have o2 : ∀ d, qaS ta (.ok d) hi = .ok (u.getD d) := by intro d; rw [h2]; cases u <;> rfl
  obtain ⟨sz0, ext0, hb0, hx0⟩ := id hb; have hcl := qau (hfz _ _ hb0); generalize l.getD 0 = i at *
  generalize hj : u.getD L.length = j at *
  have hLl : ((L.drop i).take (j - i)).length = j - i := by simp; omega
  have hget : ∀ (q : Nat) x, ((L.drop i).take (j - i))[q]? = some x -> L[i + q]? = some x /\ q < j - i := by
   intro q x hx; rw [List.getElem?_take] at hx; split at hx
   · rename_i hq; rw [List.getElem?_drop] at hx; exact ⟨hx, hq⟩
   · cases hx
  have hmul : ∀ q, off + i * sz + q * sz = off + (i + q) * sz := by intro q; rw [Nat.add_mul]; omega
  have hbound : off + i * sz + (j - i) * sz <= cs.length := by
   rw [hmul]; have : (i + (j - i)) * sz <= L.length * sz := Nat.mul_le_mul_right _ (by omega); omega
  have mk : ∀ cap', qi5 cap' (off + i * sz) (j - i) sz ext -> SimP Fz (.lst X ((L.drop i).take (j - i)) enc) (.sl b (off + i * sz) (j - i) cap') := by
   intro cap' hcap; refine ql0 b (off + i * sz) cap' cs e' sz ext bk _ hLl.symm hb hs (by rw [hLl]; exact hbound) (fun q x hx => hsz _ x (hget q x hx).1) (by rw [hLl]; exact hcap) ?_; intro q x k s hx hs'; obtain ⟨w, g1, g2⟩ := hcell _ x k s (hget q x hx).1 hs'; exact ⟨w, by rw [hmul]; exact g1, g2⟩
  have empty : j - i = 0 -> ∀ w, (w = .nils \/ (∃ b off l n k, w = .emp b off l n k) \/ ∃ a c, w = .raw (.slice a 0 c)) -> SimP Fz (.lst X ((L.drop i).take (j - i)) enc) w := fun h0 w hw => .lst0 (by rw [hLl, h0]) hw
  unfold qbm; rw [rb (show und tab t = _ from ro hu)]; simp only
  cases cap with
  | lit m =>
   have hcm : L.length <= m := hc; rw [rb (show capLow a b (.lit m) = .ok m from rfl), rb (show siz tab e = .ok sz from ro hn), rb o1, rb (o2 _), hj]; simp only; rw [rb (rc (by simp only [Bool.and_eq_true, Nat.ble_eq]; omega))]; refine ⟨_, rfl, ?_⟩; by_cases hm : m = i
   · subst hm; simp only [Nat.beq_refl, cond_true]; have h0 : j - m = 0 := by omega
     rw [h0]; refine ql0 b off _ cs e' sz ext bk 0 (by simp) hb hs (by simp; omega) (fun q x hx => by simp at hx) (by simp [qi5]) (fun q x k s hx => by simp at hx)
   · rw [qa4 hm]; simp only [cond_false]; exact mk _ (by simp only [qi5]; omega)
  | tail k =>
   obtain ⟨hext, hoff⟩ := hc; subst hext; obtain ⟨hz1, hz2⟩ := hx0 rfl; have hz1 := hz1.symm; subst hz1; subst hz2; have hcap : capLow a b (.tail k) = .ok (cs.length / sz - k) := by
     simp only [capLow]; rw [rb hcl]; simp only; rw [rb (rc (by simp only [Bool.true_and, Bool.not_eq_true']; exact qa4 (by omega)))]; rfl
   have hge : L.length <= cs.length / sz - k := by
     have : (k + L.length) * sz <= cs.length := by rw [Nat.add_mul, <- hoff]; exact hl
     have := (Nat.le_div_iff_mul_le hs).2 this; omega
   rw [rb hcap, rb (show siz tab e = .ok sz from ro hn), rb o1, rb (o2 _), hj]; simp only; rw [rb (rc (by simp only [Bool.and_eq_true, Nat.ble_eq]; omega))]; by_cases hi0 : i = 0
   · subst hi0; simp only [Nat.beq_refl, cond_true]; have := mk (.tail k) ⟨rfl, by simpa using hoff⟩; simp only [Nat.zero_mul, Nat.add_zero, Nat.sub_zero] at this; exact ⟨_, rfl, by simpa using this⟩
   · rw [qa4 hi0]; simp only [cond_false]; by_cases hlt : i < cs.length / sz - k
     · rw [show Nat.blt i (cs.length / sz - k) = true from by simpa using hlt]; simp only [cond_true]; exact ⟨_, rfl, mk _ ⟨rfl, by rw [Nat.add_mul, hoff]⟩⟩
     · rw [show Nat.blt i (cs.length / sz - k) = false from Bool.eq_false_iff.2 fun e => hlt (by simpa using e)]; simp only [cond_false]; exact ⟨_, rfl, empty (by omega) _ (.inr (.inl ⟨_, _, _, _, _, rfl⟩))⟩
 end
 end Go.Sy
namespace Go.Sy
open Go.Am Go.RowKit
universe u v
variable [Inhabited DrP]
section
variable {tab : Tab} {view : TypeId -> Option View} {C : Cx} {s : St} {ta : T AV} {a : AH}
def Does (tab : Tab) (C : Cx) (s : St) (ta : T AV) (a : AH) (K : SV -> St -> Prop) (r : R (AV × AH)) : Prop := ∃ sv s' v a', K sv s' /\ r = .ok (v, a') /\ Res tab C s ta a sv s' v a'
theorem Does.same {K : SV -> St -> Prop} (hF : FS C s.ts ta) (H : HS tab C s.h a) {sv : SV} {v : AV} (hv : SimV C sv v) (hk : K sv s) : Does tab C s ta a K (.ok (v, a)) := ⟨sv, s, v, a, hk, rfl, Res.same hF H hv⟩
theorem Does.val {K : SV -> St -> Prop} (hF : FS C s.ts ta) (H : HS tab C s.h a) {r : R AV} (h : Val C (fun v => K v s) r) : Does tab C s ta a K (do .ok (<- r, a)) := by
 obtain ⟨sv, v, h1, h2, h3⟩ := h; rw [rb h1]; exact Does.same hF H h2 h3
theorem qo3 (hF : FS C s.ts ta) (H : HS tab C s.h a) {t : TypeId} {x : SV} {v : AV} (hv : SimV C x v) {lo hi : Option Operand} {K : SV -> St -> Prop} (h : qj1 tab s t x lo hi K) : Does tab C s ta a K (qbm tab ta a t v lo hi none) := by
 unfold qj1 at h; obtain ⟨l, h1, hl⟩ := qiE hF h; obtain ⟨u, h2, hu⟩ := qiE hF h1; clear h h1; have h := h2; clear h2; have o1 : ∀ d : R Nat, qaS ta d lo = optV l d := fun d => (hl d).1
 have o2 : ∀ d : R Nat, qaS ta d hi = optV u d := fun d => (hu d).1
 clear hl hu; split at h
 · rename_i c hg; rw [qbA hv]; obtain ⟨h1, h2, h3⟩ := qfq h; unfold qbm; rw [rb (show und tab t = _ from ro hg)]; simp only; rw [rb (show R.check "slice: max" (none : Option Operand).isNone = .ok () from rfl), rb (show qaS ta (.ok 0) lo = .ok (l.getD 0) from by rw [o1]; cases l <;> rfl), rb (show qaS ta (.ok c.length) hi = .ok (u.getD c.length) from by rw [o2]; cases u <;> rfl),
     rb (rc (by simp only [Bool.and_eq_true, Nat.ble_eq]; omega))]
   exact Does.same hF H (.pure (.str _)) h3
 · rename_i e X L enc hg; split at h
   · rename_i n hn; obtain ⟨hlen, h⟩ := h; obtain ⟨h1, h2, h3⟩ := qfq h; obtain ⟨w, h4, h5⟩ := qfd hg hn H.fz (qbW hv rfl) hlen o1 o2 h1 h2; rw [h4]; exact Does.same hF H (.pure h5) h3
   · exact h.elim
 · rename_i e b hg; split at h
   · rename_i X L enc t' n hb hn; obtain ⟨hlen, h⟩ := h; obtain ⟨h1, h2, h3⟩ := qfq h; obtain ⟨C', e1, e2, e3, e4, e5, e6⟩ := zz56 hF H hb; obtain ⟨w, h4, h5⟩ := qfd hg hn e3.fz (e5 v hv) hlen o1 o2 h1 h2; exact ⟨_, _, w, a, h3, h4, ⟨C', _, e1, e2, .pure h5, e3, e4, e6.keep _⟩, Grow.refl a⟩
   · exact h.elim
 · rename_i e b off len cap hg; split at h
   · rename_i n hn; obtain ⟨h1, h2⟩ := qaB h; simp only [Bool.and_eq_true] at h1
     cases hv with
     | pure hv => cases hv
     | sl hI =>
      unfold qbm; rw [rb (show und tab t = _ from ro hg)]; simp only; rw [rb (show capLow a _ (.lit cap) = .ok cap from rfl), rb (show siz tab e = .ok n from ro hn), rb (show qaS ta (.ok 0) lo = .ok (l.getD 0) from by rw [o1]; cases l <;> rfl),
       rb (show qaS ta (.ok len) hi = .ok (u.getD len) from by rw [o2]; cases u <;> rfl),
       rb (rc (by simp only [Bool.and_eq_true]; exact h1))]
      exact Does.same hF H (.sl hI) h2
   · exact h.elim
 · exact h.elim
theorem HS.fresh (H : HS tab C s.h a) (ca : List AV) (e : TypeId) (sz : Nat) (ext : Bool) (bk : BK) : ∃ C' : Cx, C.le C' /\ C'.Fz a.next = some (.cells ca e sz ext bk) /\ HS tab C' s.h (a.new (.cells ca e sz ext bk)) := by
 classical
 let C' : Cx := { C with Fz := fun i => if i = a.next then some (.cells ca e sz ext bk) else C.Fz i }
 have hfz : ∀ i o, C.Fz i = some o -> C'.Fz i = some o := by
   intro i o hi; have := H.wf _ _ (H.fz i o hi); simp only [C']; rw [if_neg (by omega)]; exact hi
 have hle : C.le C' := ⟨fun _ _ h => h, hfz⟩; have hblk : ∀ p o I, s.h.get p = some o -> C.ρ p = some I -> I.cap.isSome -> I.β ≠ a.next := by
   intro p o I hp hI hc; obtain ⟨b, hb⟩ := (H.at_ hp hI).live hc; have := H.wf _ _ hb; omega
 refine ⟨C', hle, by simp [C'], ⟨?_, H.inj, ?_, ?_, H.lt, ?_⟩⟩
 · intro p o hp; obtain ⟨I, hI, ho⟩ := H.obj p o hp; refine ⟨I, hI, ?_⟩; have ho' := ho.le hle; by_cases hc : I.cap.isSome
   · exact ho'.congr (by rw [AH.get_new, if_neg (hblk p o I hp hI hc)])
   · cases o with
     | cells cs t => exact absurd ho.1 hc
     | arr X L enc t =>
      obtain ⟨g1, g2, g3, g4, g5⟩ := ho'; refine ⟨g1, g2, g3, g4, ?_⟩
      cases hcap : I.cap with
      | none => rw [hcap] at g5; exact g5
      | some c => rw [hcap] at hc; simp at hc
 · intro i o hi; simp only [C'] at hi; rw [AH.get_new]; split at hi
   · rename_i e; rw [if_pos e]; exact hi
   · rename_i e; rw [if_neg e]; exact H.fz i o hi
 · intro p o I hp hI hc; simp only [C']; rw [if_neg (hblk p o I hp hI hc)]; exact H.dj p o I hp hI hc
 · intro i o hi; rw [AH.get_new] at hi; simp only [AH.next_new]; split at hi
   · omega
   · have := H.wf i o hi; omega
theorem qaC {e n : Nat} (hn : tab.siz.get e = some n) (cs : List AV) (ext : Bool) (bk : BK) : Am.newRow tab a e cs ext bk = .ok (a.new (.cells cs e n ext bk), a.next) := by
 unfold Am.newRow; rw [rb (show siz tab e = .ok n from ro hn)]
theorem qp8 {c : List UInt8} {i : Nat} {x : UInt8} (hx : c[i]? = some x) {j : Nat} {v : SV} (hv : (encB x)[j]? = some v) : j = 0 /\ v = .int .u8 (.ofNat x.toNat) := by
 cases j with
 | zero => simp [encB] at hv; exact ⟨rfl, hv.symm⟩
 | succ j => simp [encB] at hv
theorem qcS : ∀ {c : List UInt8}, bytesOf (c.map fun b => AV.int .u8 (.ofNat b.toNat)) = .ok c := by
 intro c; induction c with
 | nil => rfl
 | cons x c ih =>
  simp only [List.map_cons, bytesOf]; rw [rb ih]; simp
theorem qhz {Fz : Nat -> Option AO} (hfz : ∀ i o, Fz i = some o -> a.get i = some o) {c : List UInt8} {v : AV} (hv : SimP Fz (.lst UInt8 c encB) v) :
  v = .nils /\ c = [] \/ ((∃ b off l n k, v = .emp b off l n k) \/ ∃ a c, v = .raw (.slice a 0 c)) /\ c = [] \/ ∃ b off cap, v = .sl b off c.length cap /\ readN a b off c.length = .ok (c.map fun b => AV.int .u8 (.ofNat b.toNat)) := by
 cases hv with
 | lst0 h0 hv =>
  have := List.eq_nil_of_length_eq_zero h0; rcases hv with rfl | hv
  · exact .inl ⟨rfl, this⟩
  · exact .inr (.inl ⟨hv, this⟩)
 | lst b off cap cs e sz ext bk u hb hs hl hn hc h1 h2 =>
  refine .inr (.inr ⟨b, off, cap, rfl, ?_⟩); obtain ⟨sz0, ext0, hb, hx0⟩ := hb; have hsz : c ≠ [] -> sz = 1 := by
    intro hc0
    cases c with
    | nil => exact absurd rfl hc0
    | cons x c => rw [<- hn 0 x rfl]; rfl
  unfold readN; rw [rb (qau (hfz _ _ hb))]; simp only; have hle : off + c.length <= cs.length := by
    by_cases h0 : c = []
    · subst h0; simp at hl ⊢; exact hl
    · rw [hsz h0] at hl; omega
  rw [rb (rc (by simp only [Nat.ble_eq]; exact hle))]; congr 1
  apply List.ext_getElem?
  intro i; rw [List.getElem?_take, List.getElem?_map]; by_cases hi : i < c.length
  · rw [if_pos hi, List.getElem?_drop]; have hx := List.getElem?_eq_getElem hi; have h0 : c ≠ [] := by rintro rfl; simp at hi
    have g1 := h1 i _ 0 _ hx rfl; have g2 := h2 i _ 0 _ hx rfl; rw [hsz h0] at g1; simp only [Nat.mul_one, Nat.add_zero] at g1; rw [g1, hx]
    cases g2h : u i 0 with
    | int k n =>
      rw [g2h] at g2
      cases g2; rfl
    | _ => rw [g2h] at g2; cases g2
  · rw [if_neg hi, List.getElem?_eq_none (by omega)]; rfl
theorem qp3 (hF : FS C s.ts ta) (H : HS tab C s.h a) {src dst : TypeId} {x : SV} {v : AV} (hv : SimV C x v) {K : SV -> St -> Prop} (h : qp2 tab s src dst x K) : Does tab C s ta a K (qbh tab a src dst v) := by
 have hnu : ∀ {d : TypeDesc}, tab.und.get dst = some d -> (d ≠ .unsafePointer) -> (∀ u, d ≠ .pointer u) -> qbh tab a src dst v = Am.convert tab a src dst v := by
   intro d hd h1 h2; unfold qbh; rw [rb (show und tab dst = _ from ro hd)]
   cases d <;> first | rfl | exact absurd rfl h1 | exact absurd rfl (h2 _)
 unfold qp2 at h; split at h
 · rename_i d k j n hs hd; rw [hnu hd (by simp) (by simp), qbL hv]; unfold Am.convert; rw [rb (show und tab src = _ from ro hs), rb (show und tab dst = _ from ro hd)]; exact Does.same hF H (.pure (.int _ _)) h
 · rename_i d c hs hd; rw [hnu hd (by simp) (by simp), qbA hv]; unfold Am.convert; rw [rb (show und tab src = _ from ro hs), rb (show und tab dst = _ from ro hd)]; exact Does.same hF H (.pure (.str _)) h
 · rename_i d e c hs hd; split at h
   · rename_i he hz; rw [hnu hd (by simp) (by simp), qbA hv]; unfold Am.convert; rw [rb (show und tab src = _ from ro hs), rb (show und tab dst = _ from ro hd)]; obtain ⟨C', g1, g2, g3⟩ := H.fresh (qce c) e 1 true .mark; have hsim : SimP C'.Fz (.lst UInt8 c encB) (.sl a.next 0 c.length (.tail 0)) := by
       refine ql0 a.next 0 _ (qce c) e 1 true .mark _ rfl (.of g2) (by omega) (by simp [qce]) (fun i x _ => rfl) ⟨rfl, rfl⟩ ?_; intro i x j w hx hw; obtain ⟨rfl, rfl⟩ := qp8 hx hw; refine ⟨_, ?_, .int _ _⟩; simp [qce, hx]
     have hr : Am.newRow tab a e (qce c) true .mark = .ok (a.new (.cells (qce c) e 1 true .mark), a.next) := qaC hz _ _ _; have : Does tab C s ta a K (.ok (.sl a.next 0 c.length (.tail 0), a.new (.cells (qce c) e 1 true .mark))) :=
       ⟨_, s, _, _, h, rfl, ⟨C', [], by simp, g1.tr, .pure hsim, g3, hF.le g1, Keep.new H _ _ g1 (fun p o h => ⟨o, h⟩)⟩, Grow.new a _⟩
     cases d <;> simp only <;> (rw [rb (show und tab e = _ from ro he)]; simp only; rw [rb (show siz tab e = .ok 1 from ro hz), rb (show R.check "convert: size" (Nat.beq 1 1) = .ok () from rfl), rb hr]; exact this)
   · exact h.elim
 · rename_i e hs hd; split at h
   · rename_i he; rw [hnu hd (by simp) (by simp), qdh hv]; unfold Am.convert; rw [rb (show und tab src = _ from ro hs), rb (show und tab dst = _ from ro hd)]; simp only; rw [rb (show und tab e = _ from ro he)]; exact Does.same hF H (.pure (.str _)) h
   · exact h.elim
 · rename_i e X L enc hs hd; split at h
   · rename_i he; obtain ⟨c, h1, h2⟩ := h; rw [h1] at hv; rw [hnu hd (by simp) (by simp)]; unfold Am.convert; rw [rb (show und tab src = _ from ro hs), rb (show und tab dst = _ from ro hd)]; rcases qhz H.fz (qbW hv rfl) with ⟨rfl, rfl⟩ | ⟨⟨b, off, l, n, k, rfl⟩ | ⟨a1, c1, rfl⟩, rfl⟩ | ⟨b, off, cap, rfl, hr⟩
     · simp only; rw [rb (show und tab e = _ from ro he)]; exact Does.same hF H (.pure (.str _)) h2
     · simp only; rw [rb (show und tab e = _ from ro he)]; exact Does.same hF H (.pure (.str _)) h2
     · simp only; rw [rb (show und tab e = _ from ro he)]; exact Does.same hF H (.pure (.str _)) h2
     · simp only; rw [rb (show und tab e = _ from ro he)]; simp only; rw [rb hr, rb qcS]; exact Does.same hF H (.pure (.str _)) h2
   · exact h.elim
 · rename_i e b hs hd; split at h
   · rename_i X L enc t' he hb; obtain ⟨c, h1, h2⟩ := h; obtain ⟨C', e1, e2, e3, e4, e5, _⟩ := zz56 hF H hb; have hv' := e5 v hv; rw [h1] at hv'; rw [hnu hd (by simp) (by simp)]; unfold Am.convert; rw [rb (show und tab src = _ from ro hs), rb (show und tab dst = _ from ro hd)]; rcases qhz e3.fz hv' with ⟨rfl, rfl⟩ | ⟨⟨b, off, l, n, k, rfl⟩ | ⟨a1, c1, rfl⟩, rfl⟩ | ⟨b, off, cap, rfl, hr⟩
     · simp only; rw [rb (show und tab e = _ from ro he)]; exact Does.same hF H (.pure (.str _)) h2
     · simp only; rw [rb (show und tab e = _ from ro he)]; exact Does.same hF H (.pure (.str _)) h2
     · simp only; rw [rb (show und tab e = _ from ro he)]; exact Does.same hF H (.pure (.str _)) h2
     · simp only; rw [rb (show und tab e = _ from ro he)]; simp only; rw [rb hr, rb qcS]; exact Does.same hF H (.pure (.str _)) h2
   · exact h.elim
 · rename_i e b off len cap hs hd; split at h
   · rename_i cs t' he hb; obtain ⟨hle, c, h1, h2⟩ := qaB h; have hle := Nat.le_of_ble_eq_true hle; rw [hnu hd (by simp) (by simp)]
     cases hv with
     | pure hv => cases hv
     | @sl _ _ _ _ I hI =>
       obtain ⟨_, ca, sz, g1, g2, _⟩ := H.at_ hb hI; have hcl := g2.1; have hr : readN a I.β off len = .ok (c.map fun b => AV.int .u8 (.ofNat b.toNat)) := by
        unfold readN; rw [rb (qau g1)]; simp only; rw [rb (rc (by simp only [Nat.ble_eq]; omega))]; congr 1
        apply List.ext_getElem?
        intro i; have hS := (g2.drop off).take len; rw [h1] at hS
        cases hq : (qky c)[i]? with
        | none =>
         have hn := List.getElem?_eq_none_iff.1 hq; rw [List.getElem?_eq_none (by rw [<- hS.1]; exact hn), List.getElem?_eq_none (by simpa [qky] using hn)]
        | some v =>
         have hlt := (List.getElem?_eq_some_iff.1 hq).1; have hlt2 : i < (List.take len (List.drop off ca)).length := by rw [<- hS.1]; exact hlt
         have hsv := hS.2 i v _ hq (List.getElem?_eq_getElem hlt2); unfold qky at hq; rw [List.getElem?_map] at hq ⊢; obtain ⟨b', hb', rfl⟩ := Option.map_eq_some_iff.1 hq; rw [List.getElem?_eq_getElem hlt2, qbL hsv, hb']; rfl
       unfold Am.convert; rw [rb (show und tab src = _ from ro hs), rb (show und tab dst = _ from ro hd)]; simp only; rw [rb (show und tab e = _ from ro he)]; simp only; rw [rb hr, rb qcS]; exact Does.same hF H (.pure (.str _)) h2
   · exact h.elim
 · exact h.elim
end
end Go.Sy
namespace Go.Sy
open Go.Am Go.RowKit
universe u v
variable [Inhabited DrP]
section
variable {tab : Tab} {view : TypeId -> Option View} {C : Cx} {s : St} {ta : T AV} {a : AH} {h : SH}
structure Told (Fz : Nat -> Option AO) (X : Type) (l : List X) (enc : X -> List SV) (n : Nat) (news : List AV) : Prop where
 len : news.length = l.length * n
 each : ∀ (i : Nat) x, l[i]? = some x -> (enc x).length = n
 cell : ∀ (i : Nat) x (j : Nat) v, l[i]? = some x -> (enc x)[j]? = some v -> ∃ u, news[i * n + j]? = some u /\ SimP Fz v u
 one : news.all qcf = true
theorem qeW {s : SV} (h : qdI s = true) : qga s = true := by cases s <;> first | rfl | cases h
theorem qoL {Fz : Nat -> Option AO} {s : SV} {v : AV} (h : SimP Fz s v) (hp : qdI s = true) : qcf v = true := qjW (C := ⟨fun _ => none, Fz⟩) (.pure h) (qeW hp)
theorem qnu {news : List AV} {n : Nat} (hn : n ≠ 0) {m : Nat} (hl : news.length = m * n) (h : ∀ i j, i < m -> j < n -> ∀ u, news[i * n + j]? = some u -> qcf u = true) : news.all qcf = true := by
 rw [List.all_eq_true]; intro v hv; obtain ⟨q, hq⟩ := List.mem_iff_getElem?.1 hv; have hlt : q < m * n := by rw [<- hl]; exact (List.getElem?_eq_some_iff.1 hq).1
 have h1 : q / n < m := by
  apply (Nat.div_lt_iff_lt_mul (by omega)).2; exact hlt
 have h2 : q % n < n := Nat.mod_lt _ (by omega); refine h (q / n) (q % n) h1 h2 v ?_; rw [Nat.mul_comm, Nat.div_add_mod]; exact hq
theorem qh0 {X : Type} {L : List X} {enc : X -> List SV} {v : AV} {Fz : Nat -> Option AO} {n : Nat} (hfz : ∀ i o, Fz i = some o -> a.get i = some o) (hv : SimP Fz (.lst X L enc) v) (hn : n ≠ 0) (he : ∀ x : X, (enc x).length = n /\ (enc x).all qdI = true) :
   ∃ news, source a n v = .ok (L.length, news) /\ Told Fz X L enc n news := by
 by_cases hL : L = []
 · subst hL; have ht : Told Fz X [] enc n [] := ⟨by simp, fun i x hx => by simp at hx, fun i x j v hx => by simp at hx, rfl⟩
   cases hv with
   | lst0 h0 hv =>
     rcases hv with rfl | ⟨b, off, l, k, c, rfl⟩ | ⟨a, c, rfl⟩
     · exact ⟨[], rfl, ht⟩
     · exact ⟨[], rfl, ht⟩
     · exact ⟨[], rfl, ht⟩
   | lst b off cap cs e sz ext bk u hb hs hl hsz hc h1 h2 =>
     obtain ⟨sz0, ext0, hb, hx0⟩ := hb; refine ⟨[], ?_, ht⟩; simp only [source, List.length_nil, Nat.zero_mul]; unfold readN; rw [rb (qau (hfz _ _ hb))]; simp only; rw [rb (rc (by simp only [Nat.ble_eq]; simpa using hl))]; simp; rfl
 · obtain ⟨b, off, cap, cs, e', sz, ext, bk, rfl, hb, hs, hl, hsz, hc, hcell⟩ := ql1 hv hL; obtain ⟨sz0, ext0, hb, hx0⟩ := hb; have hszn : sz = n := by
     obtain ⟨x, hx⟩ : ∃ x, L[0]? = some x := ⟨L[0]'(by cases L with | nil => exact absurd rfl hL | cons => simp), by simp⟩; rw [<- hsz 0 x hx, (he x).1]
   subst hszn; have hr : readN a b off (L.length * sz) = .ok ((cs.drop off).take (L.length * sz)) := by
     unfold readN; rw [rb (qau (hfz _ _ hb))]; simp only; rw [rb (rc (by simp only [Nat.ble_eq]; exact hl))]
   have hlen : ((cs.drop off).take (L.length * sz)).length = L.length * sz := by simp; omega
   have hget : ∀ (i j : Nat), i < L.length -> j < sz -> ((cs.drop off).take (L.length * sz))[i * sz + j]? = cs[off + i * sz + j]? := by
     intro i j hi hj; rw [List.getElem?_take, if_pos, List.getElem?_drop, Nat.add_assoc]
     calc i * sz + j < i * sz + sz := by omega
       _ = (i + 1) * sz := by rw [Nat.add_mul, Nat.one_mul]
       _ <= L.length * sz := Nat.mul_le_mul_right _ hi
   have hcell' : ∀ (i : Nat) x (j : Nat) v, L[i]? = some x -> (enc x)[j]? = some v -> ∃ u, ((cs.drop off).take (L.length * sz))[i * sz + j]? = some u /\ SimP Fz v u := by
     intro i x j v hx hv; obtain ⟨u, h1, h2⟩ := hcell i x j v hx hv; refine ⟨u, ?_, h2⟩; rw [hget i j (List.getElem?_eq_some_iff.1 hx).1 (by rw [<- (he x).1]; exact (List.getElem?_eq_some_iff.1 hv).1)]; exact h1
   refine ⟨_, ?_, hlen, hsz, hcell', qnu (by omega) hlen ?_⟩
   · simp only [source]; rw [rb hr]
   · intro i j hi hj u hu; have hx := List.getElem?_eq_getElem hi; have hjl : j < (enc L[i]).length := by rw [(he _).1]; exact hj
     have hv := List.getElem?_eq_getElem hjl; obtain ⟨w, h1, h2⟩ := hcell' i _ j _ hx hv; rw [hu] at h1; cases h1; exact qoL h2 (List.all_eq_true.1 (he L[i]).2 _ (List.getElem_mem hjl))
theorem qi6 (n : Nat) : ∀ (m : Nat) (l : List SV) (i : Nat), i < m -> (qhi n m l)[i]? = some ((l.drop (i * n)).take n) := by
 intro m; induction m with
 | zero => intro l i h; omega
 | succ m ih =>
  intro l i h
  cases i with
  | zero => simp [qhi]
  | succ i =>
   simp only [qhi, List.getElem?_cons_succ]; rw [ih _ _ (by omega), List.drop_drop, Nat.add_mul, Nat.one_mul, Nat.add_comm]
theorem qgx (n : Nat) : ∀ (m : Nat) (l : List SV), (qhi n m l).length = m := by
 intro m; induction m with
 | zero => intro l; rfl
 | succ m ih => intro l; simp [qhi, ih]
theorem qrw {X : Type} {enc : X -> List SV} : ∀ {c : List (List SV)} {K : List X -> Prop}, exL enc c K -> ∃ l, l.length = c.length /\ (∀ (i : Nat) x q, l[i]? = some x -> c[i]? = some q -> enc x = q) /\ K l := by
 intro c; induction c with
 | nil => intro K h; exact ⟨[], rfl, fun i x q h => by simp at h, h⟩
 | cons q c ih =>
  intro K h; obtain ⟨x, hx, h⟩ := h; obtain ⟨l, h1, h2, h3⟩ := ih h; refine ⟨x :: l, by simp [h1], fun i y r hy hr => ?_, h3⟩
  cases i with
  | zero => simp at hy hr; subst hy; subst hr; exact hx
  | succ i => exact h2 i y r (by simpa using hy) (by simpa using hr)
theorem qew {X : Type} {enc : X -> List SV} {n m : Nat} (hn : n ≠ 0) {cs : List SV} {ca : List AV} (hc : SimL C cs ca) (hl : cs.length = m * n) (hp : cs.all qdI = true) {l : List X} (hll : l.length = m)
   (he : ∀ (i : Nat) x q, l[i]? = some x -> (qhi n m cs)[i]? = some q -> enc x = q) : Told C.Fz X l enc n ca := by
 have hsub : ∀ i, i < m -> i * n + n <= m * n := by
   intro i hi
   calc i * n + n = (i + 1) * n := by rw [Nat.add_mul, Nat.one_mul]
     _ <= m * n := Nat.mul_le_mul_right _ hi
 refine ⟨by rw [<- hc.1, hl, hll], ?_, ?_, ?_⟩
 · intro i x hx; have hi : i < m := by rw [<- hll]; exact (List.getElem?_eq_some_iff.1 hx).1
   rw [he i x _ hx (qi6 n m cs i hi)]; have := hsub i hi; simp; omega
 · intro i x j v hx hv; have hi : i < m := by rw [<- hll]; exact (List.getElem?_eq_some_iff.1 hx).1
   rw [he i x _ hx (qi6 n m cs i hi), List.getElem?_take] at hv; split at hv
   · rename_i hj; rw [List.getElem?_drop] at hv; obtain ⟨u, h1, h2⟩ := hc.get hv; exact ⟨u, h1, qbW h2 (List.all_eq_true.1 hp _ (List.mem_of_getElem? hv))⟩
   · cases hv
 · refine qhY hc ?_; rw [List.all_eq_true] at hp ⊢; exact fun x hx => qeW (hp x hx)
theorem qq1 {X : Type} {L M : List X} {enc : X -> List SV} {n : Nat} {ca news : List AV} {Fz : Nat -> Option AO} (hl : ca.length = L.length * n) (hL : ∀ (i : Nat) x, L[i]? = some x -> (enc x).length = n)
   (hc : ∀ (i : Nat) x (j : Nat) v, L[i]? = some x -> (enc x)[j]? = some v -> ∃ u, ca[i * n + j]? = some u /\ SimP Fz v u) (hM : Told Fz X M enc n news) :
   (ca ++ news).length = (L ++ M).length * n /\ (∀ (i : Nat) x, (L ++ M)[i]? = some x -> (enc x).length = n) /\
     ∀ (i : Nat) x (j : Nat) v, (L ++ M)[i]? = some x -> (enc x)[j]? = some v -> ∃ u, (ca ++ news)[i * n + j]? = some u /\ SimP Fz v u := by
 have hlt : ∀ i j, i < L.length -> j < n -> i * n + j < L.length * n := by
   intro i j hi hj
   calc i * n + j < (i + 1) * n := by rw [Nat.add_mul, Nat.one_mul]; omega
     _ <= L.length * n := Nat.mul_le_mul_right _ hi
 refine ⟨by rw [List.length_append, List.length_append, hl, hM.len, Nat.add_mul], ?_, ?_⟩
 · intro i x hx; by_cases hi : i < L.length
   · rw [List.getElem?_append_left hi] at hx; exact hL i x hx
   · rw [List.getElem?_append_right (by omega)] at hx; exact hM.each _ x hx
 · intro i x j v hx hv; by_cases hi : i < L.length
   · rw [List.getElem?_append_left hi] at hx; have hj : j < n := by rw [<- hL i x hx]; exact (List.getElem?_eq_some_iff.1 hv).1
     obtain ⟨u, h1, h2⟩ := hc i x j v hx hv; exact ⟨u, by rw [List.getElem?_append_left (by rw [hl]; exact hlt i j hi hj)]; exact h1, h2⟩
   · rw [List.getElem?_append_right (by omega)] at hx; obtain ⟨u, h1, h2⟩ := hM.cell _ x j v hx hv; refine ⟨u, ?_, h2⟩; have hge : L.length * n <= i * n := Nat.mul_le_mul_right _ (by omega); rw [List.getElem?_append_right (by rw [hl]; omega), hl]; rw [Nat.sub_mul] at h1; rw [<- h1]; congr 1; omega
def qhU (by_ m : Nat) : Prop := (Nat.ble (m * by_) 16777216 && Nat.ble m 16777216) = true
theorem qiW (H : HS tab C h a) {d : Nat} {X : Type} {L M : List X} {enc : X -> List SV} {e n by_ : Nat} {u : AV} {news : List AV} (hd : h.get d = some (.arr X L enc e)) (hv : SimV C (.own d) u) (hn : tab.siz.get e = some n) (hn0 : n ≠ 0)
   (hz : qdv tab e n = .ok ()) (hroom : qhU by_ (L.length + M.length)) (hM : Told C.Fz X M enc n news) :
   ∃ I v a', Am.appendOp tab a e n by_ u M.length news = .ok (v, a') /\ Turns C (.kill d) (C.put d I) /\ HS tab (C.put d I) ⟨h.next, (d, some (.arr X (L ++ M) enc e)) :: onH (.kill d) h.os⟩ a' /\ SimV (C.put d I) (.own d) v /\ Grow a a' /\ Keep C h a [.kill d, .mod d] (C.put d I) ⟨h.next, (d, some (.arr X (L ++ M) enc e)) :: onH (.kill d) h.os⟩ a' := by
 have hpk : ∀ (I : BI) (o2 : SO) p o J, h.get p = some o -> C.ρ p = some J -> p ≠ d -> ∃ o', (SH.mk h.next ((d, some o2) :: onH (.kill d) h.os)).get p = some o' /\ (C.put d I).ρ p = some J := by
   intro I o2 p o J hp hJ hpd; refine ⟨o.on (.kill d), ?_, by rw [zz8 _ _ hpd]; exact hJ⟩; have h1 := qft (.kill d) h.next h.os p; simp only [SH.get, qaY, if_neg hpd] at h1 hp ⊢; rw [h1, hp]; rfl
 obtain ⟨I0, hI0, ho⟩ := H.obj d _ hd; have ho' := ho; obtain ⟨g1, g2, g3, g4, g5⟩ := ho; have hsz : I0.sz = n := by rw [hn] at g1; exact (Option.some.inj g1).symm
 have hlt : ∀ b i, C.Fz i = some b -> i < a.next := fun b i hi => H.wf _ _ (H.fz _ _ hi)
 by_cases hm : M.length = 0
 · have hM0 := List.eq_nil_of_length_eq_zero hm; subst hM0; have hnews : news = [] := List.eq_nil_of_length_eq_zero (by rw [hM.len]; simp); subst hnews; rw [List.append_nil]; obtain ⟨hT, H'⟩ := H.renew hd hI0 I0 (o := .arr X L enc e) (a' := a) (fun i b _ h => h) H.wf (fun hc => .inr ⟨hc, rfl⟩) (Nat.le_refl _) (fun hT => by
     have := ho'.turns hT; exact this)
   refine ⟨I0, u, a, ?_, hT, H', ?_, Grow.refl a, fun p o J hp hJ hc hnd => ⟨rfl, .inl (hpk I0 _ p o J hp hJ (fun e => hnd (by simp [qcy, e])))⟩⟩
   · cases hv with
     | pure hv => cases hv
     | own0 hI hc => simp [Am.appendOp]
     | own hI hc =>
       rw [hI0] at hI; cases hI; rw [hc] at g5; obtain ⟨ca, ext, bk, k1, k2, k3, k4, k5⟩ := g5; rename_i c'; have hlow : capLow a I0.β c' = .ok (I0.len) := by
         rcases k4 with ⟨rfl, rfl⟩ | ⟨rfl, h0⟩
         · simp only [capLow]; rw [rb (qau k1)]; simp only; rw [rb (rc (by simp only [Bool.true_and, Bool.not_eq_true']; exact qa4 (by omega)))]; simp only [Nat.sub_zero]; rw [k3, g3]; congr 1
           exact Nat.mul_div_cancel _ (by omega)
         · rw [show capLow a I0.β (.lit 0) = .ok 0 from rfl, g3, h0]
       simp only [Am.appendOp]; rw [rb hlow, rb (qau k1)]; simp only; rw [rb (rc (by simp [hsz])), rb (rc (by rw [g3]; exact hroom)), List.length_nil, Nat.add_zero, show Nat.ble I0.len I0.len = true from by simp]; simp only [cond_true]; rfl
   · cases hv with
     | pure hv => cases hv
     | own0 hI hc => exact .own0 (zz5 _ _ _) (by rw [hI0] at hI; cases hI; exact hc)
     | own hI hc => rw [hI0] at hI; cases hI; exact .own (zz5 _ _ _) hc
 · have hbm : Nat.beq M.length 0 = false := qa4 hm; have hpos : 0 < n := by omega
   have newrow : ∀ (ca : List AV) (a1 : AH) (bk : BK), a1.next = a.next -> (∀ i o, a1.get i = some o -> a.get i = some o) -> (∀ i b, (I0.cap.isSome -> i ≠ I0.β) -> a.get i = some b -> a1.get i = some b) -> (bk ≠ .ro /\ bk ≠ .cold) -> ca.length = L.length * n ->
       (∀ (i : Nat) x (j : Nat) v, L[i]? = some x -> (enc x)[j]? = some v -> ∃ u, ca[i * n + j]? = some u /\ SimP C.Fz v u) ->
       ∃ I, Turns C (.kill d) (C.put d I) /\ HS tab (C.put d I) ⟨h.next, (d, some (.arr X (L ++ M) enc e)) :: onH (.kill d) h.os⟩ (a1.new (.cells (ca ++ news) e n true bk)) /\ SimV (C.put d I) (.own d) (.sl a.next 0 (L.length + M.length) (.tail 0)) /\ Grow a (a1.new (.cells (ca ++ news) e n true bk)) /\ Keep C h a [.kill d, .mod d] (C.put d I) ⟨h.next, (d, some (.arr X (L ++ M) enc e)) :: onH (.kill d) h.os⟩ (a1.new (.cells (ca ++ news) e n true bk)) := by
     intro ca a1 bk hn1 hold1 hkeep hbk hcl hcc; let I : BI := ⟨a.next, L.length + M.length, n, some (.tail 0)⟩
     obtain ⟨r1, r2, r3⟩ := qq1 hcl (fun i x hx => by rw [<- hsz]; exact g4 i x hx) hcc hM; obtain ⟨hT, H'⟩ := H.renew hd hI0 I (o := .arr X (L ++ M) enc e) (a' := a1.new (.cells (ca ++ news) e n true bk)) (fun i b hi hb => by
         rw [AH.get_new, if_neg (by have := H.wf _ _ hb; omega)]; exact hkeep i b hi hb)
       (fun i b hi => by
         rw [AH.get_new] at hi; simp only [AH.next_new]; split at hi
         · omega
         · have := H.wf _ _ (hold1 i b hi); omega)
       (fun _ => .inl (Nat.le_refl _)) (by simp only [AH.next_new]; omega)
       (fun hT => by
         refine ⟨hn, hpos, by simp [I], r2, ?_⟩; refine ⟨ca ++ news, true, bk, by rw [AH.get_new, if_pos (by rw [hn1])], hbk, r1, .inl ⟨rfl, rfl⟩, fun i x j v hx hv => ?_⟩; obtain ⟨w, w1, w2⟩ := r3 i x j v hx hv; exact ⟨w, w1, w2.mono hT.1⟩)
     refine ⟨I, hT, H', .own (I := I) (zz5 _ _ _) rfl, ⟨by simp only [AH.next_new]; omega, fun i o hi => ?_⟩, ?_⟩
     · rw [AH.get_new] at hi; split at hi
       · right; omega
       · exact .inl ⟨o, hold1 i o hi⟩
     · intro p o J hp hJ hc hnd; have hpd : p ≠ d := fun e => hnd (by simp [qcy, e])
       obtain ⟨b, hb⟩ := (H.at_ hp hJ).live hc; have hlt := H.wf _ _ hb; refine ⟨?_, .inl (hpk I _ p o J hp hJ hpd)⟩; rw [AH.get_new, if_neg (by omega), hkeep J.β b (fun hc0 e => hpd (H.inj p d o _ J I0 hp hd hJ hI0 hc hc0 e)) hb, hb]
   cases hv with
   | pure hv => cases hv
   | own0 hI hc =>
     rw [hI0] at hI; cases hI; rw [hc] at g5; have hL0 := List.eq_nil_of_length_eq_zero g5; subst hL0; obtain ⟨I, q1, q2, q3, q4, q5⟩ := newrow [] a .rw rfl (fun i o h => h) (fun i b _ h => h) (by simp) (by simp) (fun i x j v hx => by simp at hx); simp only [List.nil_append, List.length_nil, Nat.zero_add] at q2 q3 q4; refine ⟨I, _, _, ?_, q1, q2, q3, q4, q5⟩; simp only [Am.appendOp, hbm, cond_false]; have hr : (Nat.ble (M.length * by_) 16777216 && Nat.ble M.length 16777216) = true := by
       have := hroom; unfold qhU at this; simpa using this
     rw [rb (rc hr), rb hz, rb (qaC hn _ _ _)]
   | own hI hc =>
     rw [hI0] at hI; cases hI; rw [hc] at g5; obtain ⟨ca, ext, bk, k1, k2, k3, k4, k5⟩ := g5; rw [hsz] at k1 k3 k5; rcases k4 with ⟨rfl, rfl⟩ | ⟨rfl, h0⟩
     · obtain ⟨I, q1, q2, q3, q4, q5⟩ := newrow ca (a.kill I0.β) bk.grown rfl (fun i o hi => by
           rw [zz39] at hi; split at hi
           · cases hi
           · exact hi) (fun i b hi hb => by rw [zz39, if_neg (hi (by simp [hc]))]; exact hb) (by cases bk <;> simp [BK.grown]) k3 k5
       refine ⟨I, _, _, ?_, q1, q2, q3, q4, q5⟩; have hlow : capLow a I0.β (.tail 0) = .ok L.length := by
         simp only [capLow]; rw [rb (qau k1)]; simp only; rw [rb (rc (by simp only [Bool.true_and, Bool.not_eq_true']; exact qa4 hn0))]; simp only [Nat.sub_zero]; rw [k3]; congr 1
         exact Nat.mul_div_cancel _ hpos
       simp only [Am.appendOp]; rw [rb hlow, rb (qau k1)]; simp only; rw [rb (rc (by simp)), g3, rb (rc hroom), show Nat.ble (L.length + M.length) L.length = false from Bool.eq_false_iff.2 fun e => by have := Nat.le_of_ble_eq_true e; omega]; simp only [cond_false]; rw [rb (rc (by simp only [Nat.zero_add, Nat.ble_eq]; omega)), rb hz, rb (rc (by
         simp only [Nat.beq_refl, Bool.true_and, Bool.and_eq_true]; exact ⟨by simpa using k2, hM.one⟩)), show ca.take (L.length * n) = ca from List.take_of_length_le (by omega)]
       rw [rb (qaC hn _ _ _)]; rfl
     · have hL0 := List.eq_nil_of_length_eq_zero h0; subst hL0; obtain ⟨I, q1, q2, q3, q4, q5⟩ := newrow [] a .rw rfl (fun i o h => h) (fun i b _ h => h) (by simp) (by simp) (fun i x j v hx => by simp at hx); simp only [List.nil_append, List.length_nil, Nat.zero_add] at q2 q3 q4; refine ⟨I, _, _, ?_, q1, q2, q3, q4, q5⟩; have hlen0 : I0.len = 0 := by rw [g3]; rfl
       simp only [Am.appendOp]; rw [rb (show capLow a I0.β (.lit 0) = .ok 0 from rfl), rb (qau k1)]; simp only; rw [rb (rc (by simp)), hlen0, rb (rc (by have := hroom; unfold qhU at this; simpa using this)), show Nat.ble (0 + M.length) 0 = false from Bool.eq_false_iff.2 fun e => by have := Nat.le_of_ble_eq_true e; omega]; simp only [cond_false]; rw [rb (rc (by simp)), rb hz]; simp only [Nat.zero_mul, List.take_zero, List.nil_append, Nat.zero_add]; rw [rb (qaC hn _ _ _)]
theorem qiV (H : HS tab C h a) {X : Type} {M : List X} {enc : X -> List SV} {e n by_ : Nat} {news : List AV} (hn : tab.siz.get e = some n) (hn0 : n ≠ 0)
   (hz : qdv tab e n = .ok ()) (hroom : qhU by_ M.length) (hM : Told C.Fz X M enc n news) :
   ∃ I v a', Am.appendOp tab a e n by_ .nils M.length news = .ok (v, a') /\ C.le (C.put h.next I) /\ HS tab (C.put h.next I) (h.new (.arr X M enc e)) a' /\ SimV (C.put h.next I) (.own h.next) v /\ Grow a a' /\ Keep C h a [] (C.put h.next I) (h.new (.arr X M enc e)) a' := by
 by_cases hm : M.length = 0
 · let I : BI := ⟨0, 0, n, none⟩
   obtain ⟨h1, h2⟩ := H.new0 (o := .arr X M enc e) I rfl (fun hle => ⟨hn, by simp only [I]; omega, by simp [I, hm], hM.each, hm⟩); exact ⟨I, .nils, a, by simp [Am.appendOp, hm], h1, h2, .own0 (I := I) (zz5 _ _ _) rfl, Grow.refl a, fun p o J hp hJ hc _ => ⟨rfl, .inl (by obtain ⟨o2, g2⟩ := qdL H (.arr X M enc e) p o hp; exact ⟨o2, g2, h1.1 _ _ hJ⟩)⟩⟩
 · let I : BI := ⟨a.next, M.length, n, some (.tail 0)⟩
   obtain ⟨h1, h2⟩ := H.new (ao := .cells news e n true .rw) (o := .arr X M enc e) I rfl (fun hle => ⟨hn, by simp only [I]; omega, rfl, hM.each, news, true, .rw, by rw [AH.get_new, if_pos rfl], by simp, hM.len, .inl ⟨rfl, rfl⟩, fun i x j v hx hv => by
    obtain ⟨u, g1, g2⟩ := hM.cell i x j v hx hv; exact ⟨u, g1, g2.mono hle.2⟩⟩)
   refine ⟨I, .sl a.next 0 M.length (.tail 0), a.new (.cells news e n true .rw), ?_, h1, h2, .own (I := I) (zz5 _ _ _) rfl, Grow.new a _, Keep.new H _ _ h1 (qdL H _)⟩; simp only [Am.appendOp, qa4 hm, cond_false]; rw [rb (rc hroom), rb hz, rb (qaC hn _ _ _)]
end
end Go.Sy
