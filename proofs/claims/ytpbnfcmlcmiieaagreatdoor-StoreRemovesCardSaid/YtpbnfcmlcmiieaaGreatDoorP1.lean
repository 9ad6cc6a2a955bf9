/- Part 1: an evaluator, proved sound, and its use at this seat; no condition. -/
import Derived.Laws.Externs
import Derived.Test.YtpbnfcmlcmiieaaGreatDoorProg
import Derived.KernelRfl
import Derived.Test.YtpbnfcmlcmiieaaGreatDoorP0
set_option linter.unusedSimpArgs false
set_option linter.unusedVariables false
set_option linter.unusedSectionVars false
set_option linter.deprecated false
set_option maxRecDepth 100000
namespace Go.Am
open Go.RowKit
section
variable [Inhabited aE]
section
variable {P:Program} {tab:aM} (ok:aV P tab) {sub:FuncId->List AV->AH->R (List (AV×AH))} (hsub:fQ P tab sub) (hext:fW P tab)
variable {D:Nat->Prop} {E:Env} {K:KS} {base:List Frame} {frC:Frame} {csC:List Frame} {w:World}
def ou (P:Program) (M0:Machine) (D N:Nat->Prop) (E:Env) (K:KS) (m':AM) (base:List Frame) (w:World):Prop:=
 ∃fr' cs' w' E',Steps P M0 (lone fr' cs' w')/\Rel (fun i=>D i\/N i) E' K m' base fr' cs' w'/\ag D E E'/\Kept K w w'
open Classical in
theorem Rel.kY {m m':AM} (hR:Rel D E K m base frC csC w) (M0:Machine) (N:Nat->Prop) (f:Nat->Nat×Nat) (hN:∀i,N i->¬D i) (hlt:∀i,D i\/N i->i<m'.h.next) (hwf:m'.fr.WF/\ ∀f∈m'.cs,f.WF)
  (h1:∀E',ag D E E'->aU E' m.h K w->aL E' m.fr=frC->m.cs.map (aL E')++base=csC->(∀i,N i->E'.aG i=(f i).1/\E'.cap i=(f i).2)->One P M0 E' K m' base w):
  ou P M0 D N E K m' base w:=by
 let E1:Env:=⟨fun i=>if N i then(f i).1 else E.aG i,fun i=>if N i then(f i).2 else E.cap i⟩
 have ha:ag D E E1:=by
  intro i hi;have:¬N i:=fun hn=>hN i hn hi
  simp[E1,this]
 have hE:∀i,N i->E1.aG i=(f i).1/\E1.cap i=(f i).2:=by
  intro i hi;simp[E1,hi]
 have hE1:∀E',ag (fun i=>D i\/N i) E1 E'->One P M0 E' K m' base w:=by
  intro E' he;have hd:ag D E E':=ha.trans he (fun i hi=> .inl hi);obtain⟨g1,g2,g3⟩:=hR.all E' hd;refine h1 E' hd g1 g2 g3 (fun i hi=>?_);have h2:=he i (.inr hi);have h3:=hE i hi;exact⟨h2.1.trans h3.1,h2.2.trans h3.2⟩
 obtain⟨w',s1,s2,s3⟩:=hE1 E1 (ag.refl _ _);refine⟨_,_,w',E1, .one s1,⟨?_,hlt,hwf⟩,ha,s3⟩;intro E' he;obtain⟨w2,t1,t2,t3⟩:=hE1 E' he;rw[s1]at t1;obtain⟨e1,e2,e3⟩:=lp (by simpa using t1);subst e3;exact⟨t2,e1.symm,e2.symm⟩
variable {fr fr':ae} {cs:List ae} {h h0 h1 h2:AH} {ops:Array Oper} {i:Nat} {rest:List Nat} {k:List aT} {o:Oper} {v:AV}
theorem Rel.live (hR:Rel D E K {fr,cs,h} base frC csC w) {i:Nat} {ob:AO} (hi:h.get i=some ob):D i:=by
 by_cases hd:D i
 . exact hd
 . exfalso;have ha:ag D E ⟨fun j=>if j=i then w.heap.size else E.aG j,E.cap⟩:=by
    intro j hj;have:¬j=i:=fun e=>hd (e▸hj)
    simp[this]
   have:=(hR.all _ ha).1.lt hi;simp at this
include ok in
theorem nw (hR:Rel D E K {fr,cs,h} base frC csC w) (a:eY frC ops i rest o) (hp:df tab fr.tmps h0 o= .ok (v,h1)) (hf:fr.finish v= .ok fr')
  (hs:∀i o,h0.get i=some o->h.get i=some o) (hd0:∀i o,h0.get i=some o->i<h0.next)
  (hg:∀i o,h2.get i=some o->h1.get i=some o\/(h.get i=some o/\h0.get i=none)) (hd2:∀i o,h2.get i=some o->i<h2.next\/(h1.get i=some o/\h1.next<=h2.next))
  (N:Nat->Prop) (hN1:h0.next<h1.next->N h0.next) (hN:∀i,N i->i=h0.next/\ ¬D i) (hlt:∀i,D i\/N i->i<h2.next):
  ou P (lone frC csC w) D N E K {fr:=fr',cs,h:=h2} base w:=by
 obtain⟨f,hgood⟩:=vo ok hp w frC.eval;have hfc:=fU hf;have hρ:∀E',ag D E E'->∀x u,ev fr.tmps x= .ok u->frC.eval x=aa E' u:=by
  intro E' he x u hx;rw[<-(hR.all E' he).2.1];exact jI hR.wf.1 E' hx
 refine hR.kY (m':={fr:=fr',cs,h:=h2}) _ N (fun _=>f) (fun i hi=>(hN i hi).2) hlt ⟨(hfc E).2.1 hR.wf.1,hR.wf.2⟩ ?_;intro E' he H e1 e2 hE';obtain⟨_,r,w',s1,s2,s3,s4⟩:=hgood E' _ (H.part hs hd0) (hρ E' he) (fun hlt=>hE' h0.next (hN1 hlt));refine⟨w',?_,H.join s3 s4 hg (fun i o hi=>(hd2 i o hi).elim id (fun h=>Bd (s3.cN i o h.1) h.2)),s4.part⟩;rw[a.value (.inr (wx hp)) csC s1 s2,<-e1,<-e2,(hfc E').1]
theorem l6 {M0:Machine} {N:Nat->Prop} {m':AM} {lo:Nat} (hg:ou P M0 D N E K m' base w) (hlo:lo<=m'.h.next) (hN:∀i,N i->lo<=i):eo P lo M0 D E K m' base w:=by
 obtain⟨fr',cs',w',E',h1,h2,h3,h4⟩:=hg;exact⟨fr',cs',w',E',_,h1,h2,h3,fun i hi=> .inl hi,h4,hlo,fun i hi=>hi.elim .inl (fun h=> .inr (hN i h))⟩
theorem Rel.dx (hR:Rel D E K {fr,cs,h} base frC csC w) {E':Env} (he:ag D E E'):Rest E' h h0 K=Rest E h h0 K:=by
 unfold Rest;congr 1
 funext b
 apply propext;constructor
 . rintro(hk|⟨i,o,h1,h2,e⟩)
   . exact .inl hk
   . exact .inr ⟨i,o,h1,h2,by rw[e,(he i (hR.live h1)).1]⟩
 . rintro(hk|⟨i,o,h1,h2,e⟩)
   . exact .inl hk
   . exact .inr ⟨i,o,h1,h2,by rw[e,(he i (hR.live h1)).1]⟩
include ok hsub hext in
theorem GL (hR :Rel D E K {fr,cs,h} base frC csC w) (a:eY frC ops i rest o) (hp:mN tab sub fr.tmps h0 o= .ok (v,h1)) (hf:fr.finish v= .ok fr')
   (hs:∀i o,h0.get i=some o->h.get i=some o) (hd0:∀i o,h0.get i=some o->i<h0.next)
   (hg:∀i o,h2.get i=some o->h1.get i=some o\/(h.get i=some o/\h0.get i=none)) (hd2:∀i o,h2.get i=some o->i<h2.next\/(h1.get i=some o/\h1.next<=h2.next))
   (hle:h0.next<=h1.next) (hnx:h2.next=h1.next) (hltD:∀i,D i->i<h0.next):
   eo P h0.next (lone frC csC w) D E K {fr:=fr',cs,h:=h2} base w:=by
 have hpure:df tab fr.tmps h0 o= .ok (v,h1)->eo P h0.next (lone frC csC w) D E K {fr:=fr',cs,h:=h2} base w:=by
   intro hp;refine l6 (nw ok hR a hp hf hs hd0 hg hd2 (fun i=>i=h0.next/\h0.next<h1.next) (fun h=>⟨rfl,h⟩) (fun i hi=>⟨hi.1,fun hd=>by have:=hltD i hd;omega⟩) ?_) (by simp only;omega) (fun i hi=>by omega);rintro i (hi|hi)
   . have:=hltD i hi;omega
   . omega
 have hfc:=fU hf;have hρ:∀E',ag D E E'->∀x u,ev fr.tmps x= .ok u->frC.eval x=aa E' u:=by
   intro E' he x u hx;rw[<-(hR.all E' he).2.1];exact jI hR.wf.1 E' hx
 unfold mN at hp;split at hp
 . rename_i c hc;split at hp
   . rename_i f hcf;obtain⟨args,hargs,hp1⟩:=af.1 hp;obtain⟨u,hu,hp2⟩:=af.1 hp1;obtain⟨d,hd,hp3⟩:=af.1 hp2;clear hp hp1 hp2;have hres:∀E',ag D E E'->Deferred.ofValue (frC.eval f) (c.args.map frC.eval)=pure (cw E' d):=by
       intro E' he;rw[<-k8 hd E',hρ E' he _ _ hu,<-ku (hρ E' he) _ _ hargs];congr 1
       simp[<-Array.toList_inj]
     have hrob:=mh hres;have hnd:∀c',o.op≠ .defer c':=by rw[hc];intro c' e;cases e
     have hctx:Ctx P (lone frC csC w) frC csC w .normal (cw E d):=pC a (.inr hnd) (by simp[execOp,hc,resolve,hcf,hres E (ag.refl _ _)]);split at hp3
     . rename_i g captured htg;have hinv:∀E',ag D E E'->invoke (cw E d).target (cw E d).args=callFunc g (aJ E' (d.args++captured)).toArray:=by
         intro E' he;rw[<-hrob E' he];simp only[cw,htg,ig,invoke,bG];simp
       split at hp3
       . rename_i fn hfn;have hP:=ok.fns g fn hfn;have hn:fn.name≠ "runtime.NumGoroutine" :=by simpa using ok.nm g fn hfn
         split at hp3
         . rename_i body hb;obtain⟨outs,ho,hp4⟩:=af.1 hp3;split at hp4
           . rename_i v' h' 
             cases hp4;have hrun:∀a,(callFunc g a).run P w= .ok (.enter g a) w:=by
               intro a;simp[callFunc,hP,hn,hb]
             have hstep:∀E',ag D E E'->Go.step P (lone frC csC w)= .next (lone (Frame.enter P g (aJ E' (d.args++captured)).toArray .normal) (frC::csC) w):=fun E' he=>
               hctx.enter _ _ _ (by rw[hinv E' he,hrun])
             have hargsC:∀E',ag D E E'->(aJ E' (d.args++captured)).toArray=(aJ E (d.args++captured)).toArray:=by
               intro E' he;have h4:=hrun (aJ E' (d.args++captured)).toArray;rw[<-hinv E' he,hinv E (ag.refl _ _),hrun]at h4;simpa using h4.symm
             obtain⟨v2,h2',hmem,he2⟩:=hsub g fn body _ h0 _ hfn hb ho D E (Rest E h h0 K) w (aJ E (d.args++captured)).toArray
               (fun E' he=>⟨by rw[<-hR.dx he];exact(hR.all E' he).1.part hs hd0,hargsC E' he⟩) hltD (frC::csC)
             rcases An.1 hmem with e|hmem
             . cases e;obtain⟨fr1,w',vC,E',D',s1,s2,s3,s4,s5,s6,s7,s8,s9,s10⟩:=he2;refine⟨frC.finish vC,csC,w',E',D',?_,⟨?_,?_,?_⟩,s5,s6,s8.part,by simp only;omega,s10⟩
               . exact(Steps.head (hstep E (ag.refl _ _)) s1).trans (.one (step_leave_returned s3))
               . intro E'' he';obtain⟨g1,g2⟩:=s4 E'' he';have hag:=s5.trans he' s6;obtain⟨k1,k2,k3⟩:=hR.all E'' hag;refine⟨k1.join (by rw[hR.dx hag];exact g1) (by rw[hR.dx hag];exact s8) hg (fun i o hi=>(hd2 i o hi).elim id (fun h=>Bd (g1.cN i o h.1) h.2)),?_,k3⟩;rw[<-(hfc E'').1,<-g2,<-k2]
               . intro i hi;have:=s7 i hi;simp only;omega
               . exact⟨(hfc E).2.1 hR.wf.1,hR.wf.2⟩
             . cases hmem
           . cases hp4
         . rename_i hb;obtain⟨gg,hgg⟩:=hext g fn _ h0 v h1 hfn hb hp3 w;refine l6 (N:=fun i=>i=h0.next/\h0.next<h1.next) (hR.kY (m':={fr:=fr',cs,h:=h2}) _ _ (fun _=>gg) (fun i hi hd=>by have:=hltD i hd;omega) ?_ ⟨(hfc E).2.1 hR.wf.1,hR.wf.2⟩ ?_) (by simp only;omega) (fun i hi=>by omega)
           . rintro i (hi|hi)
             . have:=hltD i hi;simp only;omega
             . simp only;omega
           . intro E' he H e1 e2 hE';obtain⟨_,w',s1,s2,s3⟩:=hgg E' _ (H.part hs hd0) (fun hlt=>hE' h0.next ⟨rfl,hlt⟩);refine⟨w',?_,H.join s2 s3 hg (fun i o hi=>(hd2 i o hi).elim id (fun h=>Bd (s2.cN i o h.1) h.2)),s3.part⟩;rw[hctx.value (aa E' v) w' (by rw[hinv E' he,s1]) rfl,<-e1,<-e2,(hfc E').1]
       . cases hp3
     . cases hp3
   . cases hp
   . exact hpure hp
 . cases hp
 . cases hp
 . cases hp
 . cases hp
 . exact hpure hp
end
end
section
variable [Inhabited aE]
section
variable {tab:aM} {ts:T AV} {h h':AH} {v:AV}
theorem Cz {t:TypeId} {x:AV} {lo hi mx:Option Operand} (hp:fG tab ts h t x lo hi mx= .ok (v,h')):h'=h:=by
 unfold fG at hp;simp only[cond_eq_ite]at hp
 repeat' (first
  |(cases hp;done)
  |(cases hp;rfl)
  |(obtain⟨_,_,hp⟩:=af.1 hp)
  |split at hp)
theorem o5 {b:Builtin} {l:List AV} {at_:Array TypeId} (hb:b= .len\/b= .cap\/b= .min\/b= .max) (hp:builtin tab b at_ l h= .ok (v,h')):h'=h:=by
 unfold builtin at hp;rcases hb with rfl|rfl|rfl|rfl
 all_goals (repeat' (first
  |contradiction
  |(cases hp;done)
  |(cases hp;rfl)
  |(obtain⟨_,_,hp⟩:=af.1 hp)
  |split at hp))
theorem xG {src dst:TypeId} (h:(match tab.und.get src,tab.und.get dst with
   |some (.int _),some (.int _)=>gF.pure
   |_,_=>gF.fN)≠gF.fN):∃k j,tab.und.get src=some (.int k)/\tab.und.get dst=some (.int j):=by
 split at h
 . rename_i k j h1 h2;exact⟨k,j,h1,h2⟩
 . exact absurd rfl h
theorem wU {src dst:TypeId} (h:(match tab.und.get src,tab.und.get dst with
  |some (.int _),some (.int _)=>gF.pure
  |_,_=>gF.fN)=gF.pure\/(match tab.und.get src,tab.und.get dst with
  |some (.int _),some (.int _)=>gF.pure
  |_,_=>gF.fN)=gF.read):∃k j,tab.und.get src=some (.int k)/\tab.und.get dst=some (.int j):=by
 apply xG;rcases h with h|h<;>rw[h]<;>simp
theorem GX {src dst:TypeId} (h:(match tab.und.get src,tab.und.get dst with
  |some (.int _),some (.int _)=>gF.pure
  |_,_=>gF.fN)=gF.alloc):False:=by
 split at h<;>cases h
theorem xH {src dst:TypeId} {k j:IntKind} (h1:tab.und.get src=some (.int k)) (h2:tab.und.get dst=some (.int j)) {x:AV} (hp:iX tab h src dst x= .ok (v,h')):∃i n,x= .int i n/\v= .int j (j.wrap n)/\h'=h:=by
 have e1:und tab src= .ok (.int k):=bw.2 h1;have e2:und tab dst= .ok (.int j):=bw.2 h2;unfold iX at hp;obtain⟨d,hd,hp⟩:=af.1 hp;rw[e2]at hd
 cases hd;simp only at hp;unfold convert at hp;obtain⟨d,hd,hp⟩:=af.1 hp;rw[e1]at hd
 cases hd;obtain⟨d,hd,hp⟩:=af.1 hp;rw[e2]at hd
 cases hd
 cases x<;>simp only at hp<;>first|(cases hp;exact⟨_,_,rfl,rfl,rfl⟩)|(cases hp;done)
theorem vx {src dst:TypeId} {k j:IntKind} (h1:tab.und.get src=some (.int k)) (h2:tab.und.get dst=some (.int j)) (i:IntKind) (n:Int) (h:AH):iX tab h src dst (.int i n)= .ok (.int j (j.wrap n),h):=by
 have e1:und tab src= .ok (.int k):=bw.2 h1;have e2:und tab dst= .ok (.int j):=bw.2 h2;unfold iX;rw[e2];show convert tab h src dst (.int i n)=_
 unfold convert;rw[e1,e2];rfl
theorem ph {o:Oper} (hc:cls tab o≠ .fN/\cls tab o≠ .alloc) (hp:df tab ts h o= .ok (v,h')):h'=h:=by
 obtain⟨dst,op,type,pos,after,guard⟩:=o;unfold df at hp
 cases op<;>simp only[cls]at hc<;>simp only at hp
 case slice t x lo hi mx=>
  obtain⟨a,ha,hp1⟩:=af.1 hp;exact Cz hp1
 case call c=>
  cases hcc:c.callee with
  |builtin b=>
   rw[hcc]at hp hc;simp only at hp hc;obtain⟨l,hl,hp1⟩:=af.1 hp
   cases b<;>first|exact o5 (.inl rfl) hp1|exact o5 (.inr (.inl rfl)) hp1|exact o5 (.inr (.inr (.inl rfl))) hp1|exact o5 (.inr (.inr (.inr rfl))) hp1|exact absurd rfl hc.1
  |value f=>rw[hcc]at hp;cases hp
  |invoke r m=>rw[hcc]at hp;cases hp
 case convert src dst x=>
  obtain⟨k,j,h1,h2⟩:=xG hc.1;obtain⟨_,_,hp1⟩:=af.1 hp;obtain⟨_,_,_,_,rfl⟩:=xH h1 h2 hp1;rfl
 all_goals first
  |exact absurd rfl hc.1
  |exact absurd rfl hc.2
  | (repeat' (first
    |(cases hp;done)
    |(cases hp;rfl)
    |(obtain⟨_,_,hp⟩:=af.1 hp)
    |split at hp))
end
end
section
variable [Inhabited aE]
def Kind (tab:aM) (ops:Array Oper) (s:DS) (j:Nat) (o:Oper) (tj:T AV) (v:AV):Prop:=
  (wanted ops o tj= .ok false/\v= .aO []/\ ∀x∈s.ai,x.1≠j)\/
  (wanted ops o tj= .ok true/\
    (((∃h1,df tab tj {t:= .e,next:=0} o= .ok (v,h1)/\h1.next=0)/\ ∀x∈s.ai,x.1≠j)\/
     (∃b h1 ob,((j,b)∈s.ai/\ ∀x∈s.ai,x.1=j->x.2=b)/\df tab tj {t:= .e,next:=b} o= .ok (v,h1)/\h1.next=b+1/\h1.get b=some ob/\s.h.get b=some ob)\/
     (((j,tj,v)∈s.reads/\ ∀x∈s.ai,x.1≠j)/\cls tab o≠ .fN/\cls tab o≠ .alloc/\ ∃hr,df tab tj hr o= .ok (v,hr)/\ ∀b ob,hr.get b=some ob->b<hr.next/\s.h.get b=some ob/\ ∀x∈s.ai,x.2≠b)))
def bn (ops:Array Oper) (ts0:T AV) (s:DS) (j:Nat) (o:Oper) (tj:T AV):Prop:=
 ∀t∈looks ops o,(∃i oi,ops[i]? =some oi/\oi.dst=some t/\i∈eT o/\(s.ax.get i).isSome/\tj.get t=s.ts.get t)\/
  (tj.get t=ts0.get t/\ ∀i oi a,ops[i]? =some oi->oi.dst=some t->s.ax.get i=some a->i=j\/j∈a)
def qX (tab:aM) (ops:Array Oper) (nt:Nat) (ts0:T AV) (s:DS) (j:Nat):Prop:=
 ∃o tj v,ops[j]? =some o/\(∀d,o.dst=some d->d<nt->s.ts.get d=some v)/\bn ops ts0 s j o tj/\Kind tab ops s j o tj v
structure bQ (tab:aM) (ops:Array Oper) (nt:Nat) (ts0:T AV) (lo:Nat) (s:DS) (X:Nat->Prop):Prop where
 cx:∀j,X j->(s.ax.get j).isSome
 lH:∀j a,X j->s.ax.get j=some a->∀i∈a,X i
 op:∀j,(s.ax.get j).isSome->∃o,ops[j]? =some o
 shape:∀j a o,s.ax.get j=some a->ops[j]? =some o->(∀i∈eT o,i∈a/\(s.ax.get i).isSome)/\ ∀i∈a,i∈eT o\/ ∃p∈eT o,∃ap,s.ax.get p=some ap/\i∈ap
 uniq:∀i j oi oj d,(s.ax.get i).isSome->ops[i]? =some oi->ops[j]? =some oj->oi.dst=some d->oj.dst=some d->i=j
 kI:∀t,(∀j o,(s.ax.get j).isSome->ops[j]? =some o->o.dst≠some t)->s.ts.get t=ts0.get t
 gL:∀j,(s.ax.get j).isSome->¬X j->qX tab ops nt ts0 s j
 al:∀x∈s.ai,x.2<s.h.next/\(s.ax.get x.1).isSome/\lo<=x.2
 nx:lo<=s.h.next
 mR:∀t,nt<=t->s.ts.get t=none
 kh:∀x∈s.ai,∀y∈s.ai,x.2=y.2->x=y
 hd:∀i o,s.h.get i=some o->i<s.h.next
theorem bO {i:Nat} {l:List Nat}:bx i l=true↔i∈l:=by
 unfold bx;rw[D6];constructor
 . rintro⟨x,hx,hb⟩;rw[Aa hb];exact hx
 . intro h;exact⟨i,h,Bo i⟩
theorem Cg {ax:T (List Nat)} {t:Tmp} {pre:List Nat}:∀(l:List Oper) (k:Nat),py ax t pre k l=true->∀j o,l[j]? =some o->o.dst=some t->(ax.get (k+j)).isSome->k+j∈pre:=by
 intro l;induction l with
 |nil=>intro k _ j o hj;simp at hj
 | cons x l ih=>
  intro k h j o hj hd hc;simp only[py,Ab]at h
  cases j with
  |zero=>
   simp only[Aw,Az]at hj;subst hj;have h1:=h.1;rw[hd]at h1;simp only[A9]at hc⊢;have:Nat.beq t t=true:=Bo t;simp only[this,hc,Bool.and_self,AY]at h1;exact bO.1 h1
  |succ j=>
   have:=ih (k+1) h.2 j o (by simpa using hj) hd (by rw[show k+1+j=k+(j+1)from by omega];exact hc);rw[show k+1+j=k+(j+1)from by omega]at this;exact this
theorem EY {ax:T (List Nat)} {ops:Array Oper} {i:Nat} {a:Tmp} {an:List Nat}:∀(l:List Oper) (k:Nat),pY ax ops i a an k l=true->∀j o,l[j]? =some o->
  (o.dst=some a->i=k+j)/\((ax.get (k+j)).isSome->a∈looks ops o->k+j∈an):=by
 intro l;induction l with
 |nil=>intro k _ j o hj;simp at hj
 | cons x l ih=>
  intro k h j o hj;simp only[pY,Ab]at h;obtain⟨⟨h1,h2⟩,h3⟩:=h
  cases j with
  |zero=>
   simp only[Aw,Az]at hj;subst hj;simp only[A9];constructor
   . intro hd;rw[hd]at h1;have:Nat.beq a a=true:=Bo a;simp only[this,AY]at h1;exact Aa h1
   . intro hc hl;simp only[hc,AY,BM,AW]at h2;rcases h2 with h2|h2
     . exact bO.1 h2
     . rw[bO.2 hl]at h2;cases h2
  |succ j=>
   have:=ih (k+1) h3 j o (by simpa using hj);rw[show k+1+j=k+(j+1)from by omega]at this;exact this
theorem p7 {ax:T (List Nat)} {ops:Array Oper} {i:Nat} {o:Oper} (h:fq ax ops i o=true):
   (∀t∈looks ops o,∀j oj,ops[j]? =some oj->oj.dst=some t->(ax.get j).isSome->j∈eT o)/\
   (∀d,o.dst=some d->∀j oj,ops[j]? =some oj->(oj.dst=some d->i=j)/\((ax.get j).isSome->d∈looks ops oj->j∈cI ax o)):=by
 unfold fq at h;simp only[Ab,Av]at h;constructor
 . intro t ht j oj hj hd hc;have:=Cg ops.toList 0 (h.1 t ht) j oj (by simpa using hj) hd (by simpa using hc);simpa using this
 . intro d hd j oj hj;have h2:=h.2;rw[hd]at h2;have:=EY ops.toList 0 h2 j oj (by simpa using hj);simpa using this
theorem kq {ax:T (List Nat)} {i:Nat} {o:Oper} (h:isReady ax i o=true):ax.get i=none/\ ∀j∈eT o,(ax.get j).isSome:=by
 unfold isReady at h;simp only[Ab,Av]at h;exact⟨by simpa using h.1,h.2⟩
end
section
variable [Inhabited aE]
theorem gz (nt:Nat) (ts:T AV) (o:Oper) (v:AV) (t:Nat):(eB nt ts o v).get t=if o.dst=some t/\t<nt then some v else ts.get t:=by
 unfold eB
 cases hd:o.dst with
 |none=>simp
 |some d=>
  have:=sL ts nt d v t;unfold ef at this;simp only[this,Az];by_cases h1:t=d
  . subst h1;simp
  . have h2:¬d=t:=fun e=>h1 e.symm
    simp[h1,h2]
theorem iv {i:Nat} {l:List Nat}:bx i l=true↔i∈l:=by
 unfold bx;rw[D6];constructor
 . rintro⟨x,hx,h⟩;rw[Aa h];exact hx
 . intro h;exact⟨i,h,Bo i⟩
theorem xo {i j:Nat} {l:List Nat}:i∈jo j l↔i=j\/i∈l:=by
 unfold jo
 cases hb:bx j l
 . simp
 . simp only[AY];constructor
   . exact .inr
   . rintro(rfl|h)
     . exact iv.1 hb
     . exact h
theorem Gi {i:Nat}:∀{m l:List Nat},i∈ov m l↔i∈m\/i∈l:=by
 intro m;induction m with
 |nil=>intro l;simp[ov]
 |cons j m ih=>
  intro l;simp only[ov,ih,xo,An];constructor
  . rintro(h|rfl|h)
    . exact .inl (.inr h)
    . exact .inl (.inl rfl)
    . exact .inr h
  . rintro((rfl|h)|h)
    . exact .inr (.inl rfl)
    . exact .inl h
    . exact .inr (.inr h)
theorem cO {ax:T (List Nat)} {o:Oper} {i:Nat}:i∈cI ax o↔i∈eT o\/ ∃p∈eT o,∃ap,ax.get p=some ap/\i∈ap:=by
 unfold cI;induction eT o with
 |nil=>simp[qd]
 |cons j l ih=>
  simp only[qd,xo,Gi,ih,An];constructor
  . rintro(rfl|h|h|⟨p,hp,ap,h1,h2⟩)
    . exact .inl (.inl rfl)
    . cases ha:ax.get j with
      |none=>rw[ha]at h;cases h
      |some ap=>rw[ha]at h;exact .inr ⟨j, .inl rfl,ap,ha,h⟩
    . exact .inl (.inr h)
    . exact .inr ⟨p, .inr hp,ap,h1,h2⟩
  . rintro((rfl|h)|⟨p,rfl|hp,ap,h1,h2⟩)
    . exact .inl rfl
    . exact .inr (.inr (.inl h))
    . exact .inr (.inl (by rw[h1];exact h2))
    . exact .inr (.inr (.inr ⟨p,hp,ap,h1,h2⟩))
section
variable {tab:aM} {ops:Array Oper} {nt lo:Nat} {ts0:T AV} {s s':DS} {X:Nat->Prop} {i:Nat} {o:Oper} {v:AV}
theorem bQ.float (H:bQ tab ops nt ts0 lo s X) (hi:ops[i]? =some o) (hr:isReady s.ax i o=true) (hok:fq s.ax ops i o=true)
   (e1:s'.ts=eB nt s.ts o v) (e2:s'.ax=s.ax.set i (some (cI s.ax o))) (eh:∀b ob,s.h.get b=some ob->s'.h.get b=some ob) (en:s.h.next<=s'.h.next)
   (ea:s'.ai=s.ai\/(s'.ai=(i,s.h.next)::s.ai/\s'.h.next=s.h.next+1)) (er:∀x∈s.reads,x∈s'.reads) (hd':∀b ob,s'.h.get b=some ob->b<s'.h.next)
   (hk:Kind tab ops s' i o s.ts v):bQ tab ops nt ts0 lo s' X:=by
 obtain⟨hnone,hpre⟩:=kq hr;obtain⟨hok1,hok2⟩:=p7 hok;have hanc:∀j,s'.ax.get j=if j=i then some (cI s.ax o)else s.ax.get j:=by
   intro j;rw[e2,T.aI]
 have hold:∀j,(s.ax.get j).isSome->j≠i/\s'.ax.get j=s.ax.get j:=by
   intro j hj;have hne:j≠i:=by intro e;subst e;rw[hnone]at hj;cases hj
   exact⟨hne,by rw[hanc,Ae hne]⟩
 have hnd:∀j oj d,(s.ax.get j).isSome->ops[j]? =some oj->oj.dst=some d->o.dst≠some d:=by
   intro j oj d hj hoj hd hod;have:=H.uniq j i oj o d hj hoj hi hd hod;exact(hold j hj).1 this
 have hts:∀t,o.dst≠some t->s'.ts.get t=s.ts.get t:=by
   intro t ht;rw[e1,gz,Ae];rintro⟨h,_⟩;exact ht h
 refine⟨?_,?_,?_,?_,?_,?_,?_,?_,AG H.nx en,?_,?_,hd'⟩
 . intro j hj;rw[(hold j (H.cx j hj)).2];exact H.cx j hj
 . intro j a hj ha;rw[(hold j (H.cx j hj)).2]at ha;exact H.lH j a hj ha
 . intro j hj;rw[hanc]at hj;by_cases h1:j=i
   . subst h1;exact⟨o,hi⟩
   . rw[Ae h1]at hj;exact H.op j hj
 . intro j a oj ha hoj;rw[hanc]at ha;by_cases h1:j=i
   . subst h1;rw[Ai rfl]at ha;rw[hi]at hoj
     cases ha;cases hoj;refine⟨fun p hp=>⟨cO.2 (.inl hp),?_⟩,fun x hx=>?_⟩
     . rw[(hold p (hpre p hp)).2];exact hpre p hp
     . rcases cO.1 hx with h|⟨p,hp,ap,h1,h2⟩
       . exact .inl h
       . exact .inr ⟨p,hp,ap,by rw[(hold p (by rw[h1];rfl)).2];exact h1,h2⟩
   . rw[Ae h1]at ha;obtain⟨g1,g2⟩:=H.shape j a oj ha hoj;refine⟨fun p hp=>⟨(g1 p hp).1,?_⟩,fun x hx=>?_⟩
     . rw[(hold p (g1 p hp).2).2];exact(g1 p hp).2
     . rcases g2 x hx with h|⟨p,hp,ap,h1,h2⟩
       . exact .inl h
       . exact .inr ⟨p,hp,ap,by rw[(hold p (by rw[h1];rfl)).2];exact h1,h2⟩
 . intro a b oa ob d ha hoa hob hda hdb;rw[hanc]at ha;by_cases h1:a=i
   . subst h1;rw[hi]at hoa;cases hoa;exact(hok2 d hda b ob hob).1 hdb
   . rw[Ae h1]at ha;exact H.uniq a b oa ob d ha hoa hob hda hdb
 . intro t ht;have h1:o.dst≠some t:=ht i o (by rw[hanc,Ai rfl];rfl) hi;rw[hts t h1];exact H.kI t (fun j oj hj hoj=>ht j oj (by rw[(hold j hj).2];exact hj) hoj)
 . intro j hj hx;by_cases h1:j=i
   . subst h1;refine⟨o,s.ts,v,hi,?_,?_,hk⟩
     . intro d hd hlt;rw[e1,gz,Ai ⟨hd,hlt⟩]
     . intro t ht;by_cases hw:∃jj oj,ops[jj]? =some oj/\oj.dst=some t/\(s.ax.get jj).isSome
       . obtain⟨jj,oj,g1,g2,g3⟩:=hw;refine .inl ⟨jj,oj,g1,g2,hok1 t ht jj oj g1 g2 g3,by rw[(hold jj g3).2];exact g3,?_⟩;exact(hts t (hnd jj oj t g3 g1 g2)).symm
       . refine .inr ⟨H.kI t (fun jj oj g3 g1 g2=>hw ⟨jj,oj,g1,g2,g3⟩),?_⟩;intro i' oi a g1 g2 g3;by_cases h2:i'=j
         . exact .inl h2
         . rw[hanc,Ae h2]at g3;exact absurd ⟨i',oi,g1,g2,by rw[g3];rfl⟩ hw
   . have hj':(s.ax.get j).isSome:=by rw[hanc,Ae h1]at hj;exact hj
     obtain⟨oj,tj,vj,g1,g2,g3,g4⟩:=H.gL j hj' hx;refine⟨oj,tj,vj,g1,?_,?_,?_⟩
     . intro d hd hlt;rw[hts d (hnd j oj d hj' g1 hd)];exact g2 d hd hlt
     . intro t ht;rcases g3 t ht with⟨i1,oi1,k1,k2,k3,k4,k5⟩|⟨k1,k2⟩
       . refine .inl ⟨i1,oi1,k1,k2,k3,by rw[(hold i1 k4).2];exact k4,?_⟩;rw[k5,hts t (hnd i1 oi1 t k4 k1 k2)]
       . refine .inr ⟨k1,?_⟩;intro i' oi a q1 q2 q3;rw[hanc]at q3;by_cases h2:i'=i
         . subst h2;rw[Ai rfl]at q3;rw[hi]at q1
           cases q1;cases q3;exact .inr ((hok2 t q2 j oj g1).2 hj' ht)
         . rw[Ae h2]at q3;exact k2 i' oi a q1 q2 q3
     . have hnoA:(∀x∈s.ai,x.1≠j)->∀x∈s'.ai,x.1≠j:=by
         intro hx x hm;rcases ea with ea|⟨ea,_⟩<;>rw[ea]at hm
         . exact hx x hm
         . rcases An.1 hm with rfl|hm
           . exact fun e=>h1 e.symm
           . exact hx x hm
       rcases g4 with⟨k1,k2,k3⟩|⟨k1,k2⟩
       . exact .inl ⟨k1,k2,hnoA k3⟩
       . refine .inr ⟨k1,?_⟩;rcases k2 with k2|⟨b,h1',ob,m1,m2,m3,m4,m5⟩|⟨m1,m2,m3,hr',m4,m5⟩
         . exact .inl ⟨k2.1,hnoA k2.2⟩
         . refine .inr (.inl ⟨b,h1',ob,?_,m2,m3,m4,eh _ _ m5⟩);rcases ea with ea|⟨ea,_⟩<;>rw[ea]
           . exact m1
           . refine⟨Ap _ m1.1,fun x hm e=>?_⟩;rcases An.1 hm with rfl|hm
             . exact absurd e.symm h1
             . exact m1.2 x hm e
         . refine .inr (.inr ⟨⟨er _ m1.1,hnoA m1.2⟩,m2,m3,hr',m4,?_⟩);intro b ob hb;obtain⟨n1,n2,n3⟩:=m5 b ob hb;refine⟨n1,eh _ _ n2,?_⟩;intro x hx';rcases ea with ea|⟨ea,_⟩<;>rw[ea]at hx'
           . exact n3 x hx'
           . rcases An.1 hx' with rfl|hx'
             . have:=H.hd b ob n2;simp only;omega
             . exact n3 x hx'
 . intro x hx;rcases ea with ea|⟨ea,hnx⟩<;>rw[ea]at hx
   . have:=H.al x hx;exact⟨by omega,by rw[(hold _ this.2.1).2];exact this.2.1,this.2.2⟩
   . rcases An.1 hx with rfl|hx
     . exact⟨by simp only;omega,by rw[hanc,Ai rfl];rfl,H.nx⟩
     . have:=H.al x hx;exact⟨by omega,by rw[(hold _ this.2.1).2];exact this.2.1,this.2.2⟩
 . intro t ht;rw[e1,gz,Ae (fun h=>absurd h.2 (Nat.not_lt.2 ht))];exact H.mR t ht
 . intro x hx y hy e;rcases ea with ea|⟨ea,hnx⟩<;>rw[ea]at hx hy
   . exact H.kh x hx y hy e
   . rcases An.1 hx with rfl|hx<;>rcases An.1 hy with rfl|hy
     . rfl
     . have:=(H.al y hy).1;simp only at e;omega
     . have:=(H.al x hx).1;simp only at e;omega
     . exact H.kh x hx y hy e
end
end
section
variable [Inhabited aE]
section
variable {tab:aM} {ops:Array Oper} {nt lo:Nat} {ts0:T AV} {s s':DS} {X:Nat->Prop} {i:Nat} {o:Oper} {v:AV}
theorem vi (hf:lg tab ops nt i o s= .ok (some s')) (hi:ops[i]? =some o) (hr:isReady s.ax i o=true) (H:bQ tab ops nt ts0 lo s X):bQ tab ops nt ts0 lo s' X:=by
 unfold lg at hf;obtain⟨_,hck,hf1⟩:=af.1 hf;have hok:=bY.1 hck;obtain⟨b,hb,hf2⟩:=af.1 hf1;clear hf hf1;have hnoA:∀x∈s.ai,x.1≠i:=by
  intro x hx e;have:=(H.al x hx).2.1;rw[e,(kq hr).1]at this
  cases this
 cases b with
 |false=>
  simp only[Du,AK]at hf2
  cases hf2;exact H.float hi hr hok rfl rfl (fun _ _ h=>h) (Aj _) (.inl rfl) (fun _ h=>h) H.hd (.inl ⟨hb,rfl,hnoA⟩)
 | true =>
  simp only[BQ,Ah,Ax]at hf2;split at hf2
  . cases hf2
  ·
    obtain⟨⟨u,h1⟩,hp,hf3⟩:=af.1 hf2;obtain⟨_,hn,hf4⟩:=af.1 hf3;obtain⟨ob,hob,hf5⟩:=af.1 hf4
    cases hf5;have hn:=Aa (bY.1 hn);have hob:=bw.1 hob;refine H.float (v:=u) hi hr hok rfl rfl ?_ (by simp) (.inr ⟨rfl,rfl⟩) (fun _ h=>h) ?_ (.inr ⟨hb, .inr (.inl ⟨s.h.next,h1,ob,⟨Al,?_⟩,hp,hn,hob,?_⟩)⟩)
    . intro b ob' hg;have:=H.hd b ob' hg;simp only;rw[AH.aF,Ae (by omega)];exact hg
    . intro b ob' hg;simp only at hg⊢;rw[AH.aF]at hg;split at hg
      . simp only[AH.bg];omega
      . have:=H.hd b ob' hg;simp only[AH.bg];omega
    . intro x hx e;rcases An.1 hx with rfl|hx
      . rfl
      . exact absurd e (hnoA x hx)
    . simp only;rw[AH.aF,Ai rfl]
  ·
    rename_i hne hna;split at hf2
    . rename_i u h1 hm;obtain⟨_,hn,hf3⟩:=af.1 hf2
      cases hf3;have hn:=Aa (bY.1 hn);have hp:df tab s.ts {t:= .e,next:=0} o= .ok (u,h1):=by
        split at hm
        . exact hm
        . cases hm
      exact H.float (v:=u) hi hr hok rfl rfl (fun _ _ h=>h) (Aj _) (.inl rfl) (fun _ h=>h) H.hd (.inr ⟨hb, .inl ⟨⟨h1,hp,hn⟩,hnoA⟩⟩)
    . split at hf2
      . rename_i u h1 hp
        cases hf2;have hsame:=ph (tab:=tab) (o:=o) ⟨fun e=>hne (by rw[e]),fun e=>hna (by rw[e])⟩ hp;subst hsame;refine H.float (v:=u) hi hr hok rfl rfl (fun _ _ h=>h) (Aj _) (.inl rfl) (fun _ h=>Ap _ h) H.hd
          (.inr ⟨hb, .inr (.inr ⟨⟨Al,hnoA⟩,fun e=>hne (by rw[e]),fun e=>hna (by rw[e]),_,hp,?_⟩)⟩)
        intro b ob hg;rw[eV]at hg;split at hg
        . cases hg
        . rename_i hnx;refine⟨by rw[fw];exact H.hd b ob hg,hg,fun x hx e=>hnx ⟨x,hx,e⟩⟩
      . cases hf2
theorem pf:∀(l:List Oper) (k:Nat) (s s':DS),(∀j o,l[j]? =some o->ops[k+j]? =some o)->gx tab ops nt k l s= .ok s'->bQ tab ops nt ts0 lo s X->bQ tab ops nt ts0 lo s' X:=by
 intro l;induction l with
 |nil=>intro k s s' _ h H;simp only[gx]at h;cases h;exact H
 |cons o l ih=>
  intro k s s' hl h H;have hl':∀j o',l[j]? =some o'->ops[k+1+j]? =some o':=by
    intro j o' hj;have:=hl (j+1) o' (by simpa using hj);rw[show k+1+j=k+(j+1)from by omega];exact this
  simp only[gx]at h;by_cases hr:isReady s.ax k o=true
  . simp only[hr,AY]at h;obtain⟨x,hx,h1⟩:=af.1 h
    cases x with
    |none=>exact ih (k+1) s s' hl' h1 H
    |some s1=>exact ih (k+1) s1 s' hl' h1 (vi hx (by simpa using hl 0 o rfl) hr H)
  . have:isReady s.ax k o=false:=by simpa using hr
    simp only[this,AB]at h;exact ih (k+1) s s' hl' h H
theorem wS:∀(l:List Oper) (k:Nat) (ax:T (List Nat)) (j:Nat) (o:Oper),l[j]? =some o->isReady ax (k+j) o=true->(k+j,o)∈fB ax k l:=by
 intro l;induction l with
 |nil=>intro k ax j o h;simp at h
 | cons x l ih=>
  intro k ax j o hj hr;simp only[fB]
  cases j with
  |zero=>
   simp only[Aw,Az]at hj;subst hj;simp only[A9]at hr⊢;simp[hr]
  |succ j=>
   have h1:=ih (k+1) ax j o (by simpa using hj) (by rw[show k+1+j=k+(j+1)from by omega];exact hr);rw[show k+1+j=k+(j+1)from by omega]at h1
   cases isReady ax k x
   . exact h1
   . exact Ap _ h1
theorem u2:∀(l:List Oper) (k:Nat) (ax:T (List Nat)) (j:Nat) (o:Oper),(j,o)∈fB ax k l->∃j',j=k+j'/\l[j']? =some o/\isReady ax j o=true:=by
 intro l;induction l with
 |nil=>intro k ax j o h;simp[fB]at h
 | cons x l ih=>
  intro k ax j o h;simp only[fB]at h
  cases hr:isReady ax k x with
  |true=>
   rw[hr]at h;simp only[AY]at h;rcases An.1 h with e|h
   . cases e;exact⟨0,rfl,rfl,hr⟩
   . obtain⟨j',h1,h2,h3⟩:=ih (k+1) ax j o h;exact⟨j'+1,by omega,by simpa using h2,h3⟩
  |false=>
   rw[hr]at h;simp only[AB]at h;obtain⟨j',h1,h2,h3⟩:=ih (k+1) ax j o h;exact⟨j'+1,by omega,by simpa using h2,h3⟩
end
end
section
variable [Inhabited aE]
structure cT (ops:Array Oper) (fr0:ae) (cs:List ae) (k:List aT) (base:List Frame) (s:DS) (X:Nat->Prop) (D:Nat->Prop) (E:Env) (K:KS)
  (tsR:T AV) (hR:AH) (l:List Nat) (frC:Frame) (csC:List Frame) (w:World):Prop where
 rel:Rel D E K {fr:={fr0 with tmps:=tsR,todo:= .inRegion ops l::k},cs,h:=hR} base frC csC w
 hr:∀i ob,hR.get i=some ob↔s.h.get i=some ob/\ ∀x∈s.ai,x.2=i->X x.1
 hn:hR.next=s.h.next
 jX:∀j o t,X j->ops[j]? =some o->o.dst=some t->tsR.get t=s.ts.get t
 jW:∀t,(∀j o,X j->ops[j]? =some o->o.dst≠some t)->tsR.get t=fr0.tmps.get t
 dp:∀x∈s.ai,¬X x.1->¬D x.2
section
variable {P:Program} {tab:aM} (ok:aV P tab)
variable {D:Nat->Prop} {E:Env} {K:KS} {base:List Frame} {frC:Frame} {csC:List Frame} {w:World}
variable {ops:Array Oper} {fr0:ae} {cs:List ae} {k:List aT} {lo:Nat} {s:DS} {X:Nat->Prop} {tsR:T AV} {hR:AH} {j:Nat} {l:List Nat} {o:Oper} {v:AV}
theorem FO {fr fr':ae} {h:AH} {i:Nat} {rest:List Nat} {k:List aT} (hR:Rel D E K {fr,cs,h} base frC csC w) (hm:fr.mode= .run) (ht:fr.todo= .inRegion ops (i::rest)::k) (ho:ops[i]? =some o) (hw:wanted ops o fr.tmps= .ok false)
  (hf:fr.finish (.aO [])= .ok fr'):ou P (lone frC csC w) D (fun _=>False) E K {fr:=fr',cs,h} base w:=by
 have hfc:=fU hf;refine hR.kY (m':={fr:=fr',cs,h}) _ _ (fun _=>(0,0)) (fun _ h=>h.elim) (fun i hi=>hi.elim (hR.cN i) False.elim) ⟨(hfc E).2.1 hR.wf.1,hR.wf.2⟩ ?_;intro E' he H e1 e2 _;refine⟨w,step_lone_go ?_,H,Kept.refl K w⟩;have hw':=rU hR.wf.1 hw E';rw[<-(hfc E').1,<-e1,<-e2];have h1:(aL E' fr).todo= .inRegion ops (i::rest)::k.map (bV E'):=by simp[aL,ht,bV]
 have h2:(aL E' fr).mode= .run:=by simp[aL,hm,dh]
 have h3:Region.wanted o (yielded ops (aL E' fr).tmps)=false:=hw';simp only;generalize aL E' fr=g at*
 unfold stepG stepG.exec;simp[h1,h2,ho,h3];rfl
theorem Gh (H:bQ tab ops fr0.nt fr0.tmps lo s X) (R:cT ops fr0 cs k base s X D E K tsR hR l frC csC w) {tj:T AV} (hl:bn ops fr0.tmps s j o tj) (hx:¬X j) (hready:∀p∈eT o,X p):
   ∀t∈looks ops o,tsR.get t=tj.get t:=by
 intro t ht;rcases hl t ht with⟨i,oi,h1,h2,h3,_,h5⟩|⟨h1,h2⟩
 . rw[h5,R.jX i oi t (hready i h3) h1 h2]
 . rw[h1];refine R.jW t (fun i oi hi hoi hd=>?_);have hc:=H.cx i hi
   cases ha:s.ax.get i with
   |none=>rw[ha]at hc;cases hc
   |some a=>
    rcases h2 i oi a hoi hd ha with e|hm
    . exact hx (e▸hi)
    . exact hx (H.lH i a hi ha j hm)
theorem bQ.mV (H:bQ tab ops fr0.nt fr0.tmps lo s X) (hC:(s.ax.get j).isSome) (ho:ops[j]? =some o) (hready:∀p∈eT o,X p):bQ tab ops fr0.nt fr0.tmps lo s (fun i=>X i\/i=j):=by
 refine⟨?_,?_,H.op,H.shape,H.uniq,H.kI,fun i hi hx=>H.gL i hi (fun h=>hx (.inl h)),H.al,H.nx,H.mR,H.kh,H.hd⟩
 . rintro i (hi|rfl)
   . exact H.cx i hi
   . exact hC
 . rintro i a (hi|rfl) ha x hx
   . exact .inl (H.lH i a hi ha x hx)
   . obtain⟨g1,g2⟩:=H.shape i a o ha ho;rcases g2 x hx with hp|⟨p,hp,ap,h1,h2⟩
     . exact .inl (hready x hp)
     . exact .inl (H.lH p ap (hready p hp) h1 x h2)
theorem JP (H:bQ tab ops fr0.nt fr0.tmps lo s X) (R:cT ops fr0 cs k base s X D E K tsR hR l frC csC w) (hC:(s.ax.get j).isSome) (ho:ops[j]? =some o) (hdst:∀d,o.dst=some d->d<fr0.nt->s.ts.get d=some v):
   (∀i oi t,(X i\/i=j)->ops[i]? =some oi->oi.dst=some t->(eB fr0.nt tsR o v).get t=s.ts.get t)/\
   (∀t,(∀i oi,(X i\/i=j)->ops[i]? =some oi->oi.dst≠some t)->(eB fr0.nt tsR o v).get t=fr0.tmps.get t):=by
 constructor
 . intro i oi t hi hoi hd;rw[gz];by_cases h1:o.dst=some t/\t<fr0.nt
   . rw[Ai h1,hdst t h1.1 h1.2]
   . rw[Ae h1];rcases hi with hi|rfl
     . exact R.jX i oi t hi hoi hd
     . rw[ho]at hoi
       cases hoi;have hge:fr0.nt<=t:=BX (fun hlt=>h1 ⟨hd,hlt⟩);rw[H.mR t hge];exact R.rel.wf.1 t hge
 . intro t ht;rw[gz,Ae (fun h=>ht j o (.inr rfl) ho h.1)];exact R.jW t (fun i oi hi hoi=>ht i oi (.inl hi) hoi)
theorem rB (ho:ops[j]? =some o) (v:AV):ae.finish {fr0 with tmps:=tsR,todo:= .inRegion ops (j::l)::k} v= .ok {fr0 with tmps:=eB fr0.nt tsR o v,todo:= .inRegion ops l::k}:=by
 unfold ae.finish;simp only[ho,Bw];congr 1
end
end
section
variable [Inhabited aE]
section
variable {P:Program} {tab:aM} (ok:aV P tab) {sub:FuncId->List AV->AH->R (List (AV×AH))} (hsub:fQ P tab sub) (hext:fW P tab)
variable {D:Nat->Prop} {E:Env} {K:KS} {base:List Frame} {frC:Frame} {csC:List Frame} {w:World}
variable {ops:Array Oper} {fr0:ae} {cs:List ae} {k:List aT} {lo:Nat} {s:DS} {X:Nat->Prop} {tsR:T AV} {hR:AH} {j:Nat} {l:List Nat} {o:Oper} {v:AV}
def mI (P:Program) (ops:Array Oper) (fr0:ae) (cs:List ae) (k:List aT) (base:List Frame) (s:DS) (X:Nat->Prop) (D:Nat->Prop) (E:Env) (K:KS) (lo:Nat) (l:List Nat) (frC:Frame) (csC:List Frame) (w:World):Prop:=
 ∃tsR' hR' frC' csC' w' D' E',Steps P (lone frC csC w) (lone frC' csC' w')/\cT ops fr0 cs k base s X D' E' K tsR' hR' l frC' csC' w'/\ag D E E'/\(∀i,D i->D' i)/\Kept K w w'/\(∀i,D' i->D i\/lo<=i)
include ok in
theorem vS (H:bQ tab ops fr0.nt fr0.tmps lo s X) (R:cT ops fr0 cs k base s X D E K tsR hR (j::l) frC csC w) (hm:fr0.mode= .run) (ho:ops[j]? =some o) (hC:(s.ax.get j).isSome) (hx:¬X j)
   (hready:∀p∈eT o,X p):mI P ops fr0 cs k base s (fun i=>X i\/i=j) D E K lo l frC csC w:=by
 obtain⟨o',tj,v,ho',hdst,hlook,hkind⟩:=H.gL j hC hx;rw[ho]at ho'
 cases ho';have hl:=Gh H R hlook hx hready;obtain⟨hops,hwant⟩:=rM hl;obtain⟨htr1,htr0⟩:=JP H R hC ho hdst;have hfin:=rB (fr0:=fr0) (tsR:=tsR) (l:=l) (k:=k) ho v;have hdomR:=(R.rel.all E (ag.refl _ _)).1.cN;have wrap:∀(N:Nat->Prop) (hR2:AH),ou P (lone frC csC w) D N E K {fr:={fr0 with tmps:=eB fr0.nt tsR o v,todo:= .inRegion ops l::k},cs,h:=hR2} base w->
     (∀i ob,hR2.get i=some ob↔s.h.get i=some ob/\ ∀x∈s.ai,x.2=i->X x.1\/x.1=j)->hR2.next=s.h.next->(∀i,N i->(j,i)∈s.ai)->
     mI P ops fr0 cs k base s (fun i=>X i\/i=j) D E K lo l frC csC w:=by
   intro N hR2 hg hchar hnx hN;obtain⟨frC',csC',w',E1,s1,s2,s3,s4⟩:=hg;refine⟨_,hR2,frC',csC',w',_,E1,s1,⟨s2,hchar,hnx,htr1,htr0,?_⟩,s3,fun i hi=> .inl hi,s4,fun i hi=>hi.elim .inl (fun h=> .inr ((H.al _ (hN i h)).2.2))⟩;rintro x hxm hnx' (hd|hn)
   . exact R.dp x hxm (fun h=>hnx' (.inl h)) hd
   . have:=H.kh x hxm _ (hN _ hn) rfl;exact hnx' (.inr (by rw[this]))
 have hcharA:(∀x∈s.ai,x.1≠j)->∀i ob,hR.get i=some ob↔s.h.get i=some ob/\ ∀x∈s.ai,x.2=i->X x.1\/x.1=j:=by
   intro hno i ob;rw[R.hr i ob];constructor
   . rintro⟨h1,h2⟩;exact⟨h1,fun x hx e=> .inl (h2 x hx e)⟩
   . rintro⟨h1,h2⟩;exact⟨h1,fun x hx e=>(h2 x hx e).resolve_right (hno x hx)⟩
 rcases hkind with⟨hw,rfl,hno⟩|⟨hw,hk⟩
 . exact wrap _ hR (FO R.rel hm rfl ho (by rw[hwant];exact hw) hfin) (hcharA hno) R.hn (fun _ h=>h.elim)
 . have a:=gI R.rel hm rfl ho (by rw[hwant];exact hw);rcases hk with⟨⟨h1,hp,hn1⟩,hno⟩|⟨b,h1,ob,⟨hb1,hb2⟩,hp,hn1,hob,hsb⟩|⟨⟨_,hno⟩,_,_,hr,hp,hrr⟩
   . refine wrap _ hR (nw ok R.rel a (h0:={t:= .e,next:=0}) (h1:=h1) (h2:=hR) (by rw[ny o hops];exact hp) hfin ?_ ?_ ?_ (fun i o h=> .inl (hdomR i o h)) (fun _=>False) ?_ (fun _ h=>h.elim) (fun i hi=>hi.elim (R.rel.cN i) False.elim)) (hcharA hno) R.hn (fun _ h=>h.elim)
     . intro i o' h;cases h
     . intro i o' h;cases h
     . intro i o' h;exact .inr ⟨h,rfl⟩
     . intro h;simp only at h;omega
   . have hbn:=(H.al _ hb1).1;have hget:∀i,(hR.set b ob).get i=if i=b then some ob else hR.get i:=fun i=>AH.aI _ _ _ _
     refine wrap (fun i=>i=b) (hR.set b ob) (nw ok R.rel a (h0:={t:= .e,next:=b}) (h1:=h1) (h2:=hR.set b ob) (by rw[ny o hops];exact hp) hfin ?_ ?_ ?_ ?_ (fun i=>i=b) ?_ ?_ ?_) ?_ R.hn ?_
     . intro i o' h;cases h
     . intro i o' h;cases h
     . intro i o' h;rw[hget]at h;by_cases e:i=b
       . subst e;rw[Ai rfl]at h;exact .inl (hob.trans h)
       . rw[Ae e]at h;exact .inr ⟨h,rfl⟩
     . intro i o' h;rw[hget]at h;simp only[AH.cQ];left;by_cases e:i=b
       . rw[e,R.hn];exact hbn
       . rw[Ae e]at h;exact hdomR i o' h
     . intro _;rfl
     . rintro i rfl;exact⟨rfl,R.dp _ hb1 hx⟩
     . rintro i (hi|rfl)
       . exact R.rel.cN i hi
       . simp only[AH.cQ];rw[R.hn];exact hbn
     . intro i ob';rw[hget];by_cases e:i=b
       . subst e;rw[Ai rfl,hsb];constructor
         . intro h;refine⟨h,fun x hx e=> .inr ?_⟩;rw[H.kh x hx _ hb1 e]
         . exact fun h=>h.1
       . rw[Ae e,R.hr i ob'];constructor
         . rintro⟨h1,h2⟩;exact⟨h1,fun x hx e=> .inl (h2 x hx e)⟩
         . rintro⟨h1,h2⟩;refine⟨h1,fun x hx e'=>(h2 x hx e').resolve_right (fun ej=>e ?_)⟩;rw[<-e',hb2 x hx ej]
     . rintro i rfl;exact hb1
   . refine wrap _ hR (nw ok R.rel a (h0:=hr) (h1:=hr) (h2:=hR) (by rw[ny o hops];exact hp) hfin ?_ ?_ ?_ (fun i o h=> .inl (hdomR i o h)) (fun _=>False) ?_ (fun _ h=>h.elim) (fun i hi=>hi.elim (R.rel.cN i) False.elim)) (hcharA hno) R.hn (fun _ h=>h.elim)
     . intro i o' h;obtain⟨g1,g2,g3⟩:=hrr i o' h;exact(R.hr i o').2 ⟨g2,fun x hx e=>absurd e (g3 x hx)⟩
     . intro i o' h;exact(hrr i o' h).1
     . intro i o' h
       cases hg:hr.get i with
       |none=>exact .inr ⟨h,rfl⟩
       | some ob'=>
         left;have:=(hrr i ob' hg).2.1;rw[((R.hr i o').1 h).1]at this;exact this.symm
     . intro h;omega
end
end
section
variable [Inhabited aE]
section
variable {tab:aM} {ops:Array Oper} {nt lo:Nat} {ts0:T AV} {s s':DS} {X:Nat->Prop} {i:Nat} {o:Oper} {v:AV}
theorem bQ.fN (H:bQ tab ops nt ts0 lo s X) (hi:ops[i]? =some o) (hr:isReady s.ax i o=true) (hok:fq s.ax ops i o=true) (hanX:∀p∈cI s.ax o,X p)
   (e1:s'.ts=eB nt s.ts o v) (e2:s'.ax=s.ax.set i (some (cI s.ax o))) (en:s.h.next<=s'.h.next)
   (ea:∀x∈s'.ai,x∈s.ai) (ea':∀x∈s.ai,x.1∉cI s.ax o->x∈s'.ai) (eh:∀x∈s'.ai,s'.h.get x.2=s.h.get x.2) (hd':∀b ob,s'.h.get b=some ob->b<s'.h.next)
   (er:∀j oj tj vj,(j,tj,vj)∈s.reads->j∉cI s.ax o->ops[j]? =some oj->cls tab oj≠ .fN->cls tab oj≠ .alloc->(j,tj,vj)∈s'.reads/\ ∃hr,df tab tj hr oj= .ok (vj,hr)/\ ∀b ob,hr.get b=some ob->b<hr.next/\s'.h.get b=some ob/\ ∀x∈s'.ai,x.2≠b):
   bQ tab ops nt ts0 lo s' (fun j=>X j\/j=i):=by
 obtain⟨hnone,hpre⟩:=kq hr;obtain⟨hok1,hok2⟩:=p7 hok;have hanc:∀j,s'.ax.get j=if j=i then some (cI s.ax o)else s.ax.get j:=by
   intro j;rw[e2,T.aI]
 have hold:∀j,(s.ax.get j).isSome->j≠i/\s'.ax.get j=s.ax.get j:=by
   intro j hj;have hne:j≠i:=by intro e;subst e;rw[hnone]at hj;cases hj
   exact⟨hne,by rw[hanc,Ae hne]⟩
 have hnd:∀j oj d,(s.ax.get j).isSome->ops[j]? =some oj->oj.dst=some d->o.dst≠some d:=by
   intro j oj d hj hoj hd hod;have:=H.uniq j i oj o d hj hoj hi hd hod;exact(hold j hj).1 this
 have hts:∀t,o.dst≠some t->s'.ts.get t=s.ts.get t:=by
   intro t ht;rw[e1,gz,Ae];rintro⟨h,_⟩;exact ht h
 refine⟨?_,?_,?_,?_,?_,?_,?_,?_,AG H.nx en,?_,?_,hd'⟩
 . rintro j (hj|rfl)
   . rw[(hold j (H.cx j hj)).2];exact H.cx j hj
   . rw[hanc,Ai rfl];rfl
 . rintro j a (hj|rfl) ha p hp
   . rw[(hold j (H.cx j hj)).2]at ha;exact .inl (H.lH j a hj ha p hp)
   . rw[hanc,Ai rfl]at ha
     cases ha;exact .inl (hanX p hp)
 . intro j hj;rw[hanc]at hj;by_cases h1:j=i
   . subst h1;exact⟨o,hi⟩
   . rw[Ae h1]at hj;exact H.op j hj
 . intro j a oj ha hoj;rw[hanc]at ha;by_cases h1:j=i
   . subst h1;rw[Ai rfl]at ha;rw[hi]at hoj
     cases ha;cases hoj;refine⟨fun p hp=>⟨cO.2 (.inl hp),?_⟩,fun x hx=>?_⟩
     . rw[(hold p (hpre p hp)).2];exact hpre p hp
     . rcases cO.1 hx with h|⟨p,hp,ap,h1,h2⟩
       . exact .inl h
       . exact .inr ⟨p,hp,ap,by rw[(hold p (by rw[h1];rfl)).2];exact h1,h2⟩
   . rw[Ae h1]at ha;obtain⟨g1,g2⟩:=H.shape j a oj ha hoj;refine⟨fun p hp=>⟨(g1 p hp).1,?_⟩,fun x hx=>?_⟩
     . rw[(hold p (g1 p hp).2).2];exact(g1 p hp).2
     . rcases g2 x hx with h|⟨p,hp,ap,h1,h2⟩
       . exact .inl h
       . exact .inr ⟨p,hp,ap,by rw[(hold p (by rw[h1];rfl)).2];exact h1,h2⟩
 . intro a b oa ob d ha hoa hob hda hdb;rw[hanc]at ha;by_cases h1:a=i
   . subst h1;rw[hi]at hoa;cases hoa;exact(hok2 d hda b ob hob).1 hdb
   . rw[Ae h1]at ha;exact H.uniq a b oa ob d ha hoa hob hda hdb
 . intro t ht;have h1:o.dst≠some t:=ht i o (by rw[hanc,Ai rfl];rfl) hi;rw[hts t h1];exact H.kI t (fun j oj hj hoj=>ht j oj (by rw[(hold j hj).2];exact hj) hoj)
 . intro j hj hx;have h1:j≠i:=fun e=>hx (.inr e)
   have hxj:¬X j:=fun h=>hx (.inl h)
   have hjan:j∉cI s.ax o:=fun h=>hxj (hanX j h)
   have hj':(s.ax.get j).isSome:=by rw[hanc,Ae h1]at hj;exact hj
   obtain⟨oj,tj,vj,g1,g2,g3,g4⟩:=H.gL j hj' hxj;refine⟨oj,tj,vj,g1,?_,?_,?_⟩
   . intro d hd hlt;rw[hts d (hnd j oj d hj' g1 hd)];exact g2 d hd hlt
   . intro t ht;rcases g3 t ht with⟨i1,oi1,k1,k2,k3,k4,k5⟩|⟨k1,k2⟩
     . refine .inl ⟨i1,oi1,k1,k2,k3,by rw[(hold i1 k4).2];exact k4,?_⟩;rw[k5,hts t (hnd i1 oi1 t k4 k1 k2)]
     . refine .inr ⟨k1,?_⟩;intro i' oi a q1 q2 q3;rw[hanc]at q3;by_cases h2:i'=i
       . subst h2;rw[Ai rfl]at q3;rw[hi]at q1
         cases q1;cases q3;exact .inr ((hok2 t q2 j oj g1).2 hj' ht)
       . rw[Ae h2]at q3;exact k2 i' oi a q1 q2 q3
   . rcases g4 with⟨k1,k2,k3⟩|⟨k1,k2⟩
     . exact .inl ⟨k1,k2,fun x hx=>k3 x (ea x hx)⟩
     . refine .inr ⟨k1,?_⟩;rcases k2 with k2|⟨b,h1',ob,m1,m2,m3,m4,m5⟩|⟨m1,m2,m3,_⟩
       . exact .inl ⟨k2.1,fun x hx=>k2.2 x (ea x hx)⟩
       . have hm:=ea' _ m1.1 hjan;exact .inr (.inl ⟨b,h1',ob,⟨hm,fun x hx=>m1.2 x (ea x hx)⟩,m2,m3,m4,(eh _ hm).trans m5⟩)
       . obtain⟨q1,q2⟩:=er j oj tj vj m1.1 hjan g1 m2 m3;exact .inr (.inr ⟨⟨q1,fun x hx=>m1.2 x (ea x hx)⟩,m2,m3,q2⟩)
 . intro x hx;have:=H.al x (ea x hx);exact⟨by omega,by rw[(hold _ this.2.1).2];exact this.2.1,this.2.2⟩
 . intro t ht;rw[e1,gz,Ae (fun h=>absurd h.2 (Nat.not_lt.2 ht))];exact H.mR t ht
 . intro x hx y hy e;exact H.kh x (ea x hx) y (ea y hy) e
theorem wy {h:AH}:∀(l:List (Nat×T AV×AV)),reread tab ops h l= .ok ()->∀j tj vj,(j,tj,vj)∈l->∃oj h',ops[j]? =some oj/\df tab tj h oj= .ok (vj,h'):=by
 intro l;induction l with
 |nil=>intro _ j tj vj hm;cases hm
 |cons x l ih=>
  intro h j tj vj hm;obtain⟨i,ts,v⟩:=x;simp only[reread]at h;obtain⟨o,ho,h1⟩:=af.1 h;obtain⟨⟨u,h'⟩,hp,h2⟩:=af.1 h1;obtain⟨_,hb,h3⟩:=af.1 h2;have hb:=AV.beq_eq _ _ (bY.1 hb);rcases An.1 hm with e|hm
  . cases e;exact⟨o,h',bw.1 ho,by rw[<-hb];exact hp⟩
  . exact ih h3 j tj vj hm
end
end
section
variable [Inhabited aE]
section
variable {P:Program} {tab:aM} (ok:aV P tab) {sub:FuncId->List AV->AH->R (List (AV×AH))} (hsub:fQ P tab sub) (hext:fW P tab)
variable {D:Nat->Prop} {E:Env} {K:KS} {base:List Frame} {frC:Frame} {csC:List Frame} {w:World}
variable {ops:Array Oper} {fr0:ae} {cs:List ae} {k:List aT} {lo:Nat} {s s2:DS} {X:Nat->Prop} {tsR:T AV} {hR:AH} {j:Nat} {l:List Nat} {o:Oper}
open Classical in
include ok hsub hext in
theorem Gq (H:bQ tab ops fr0.nt fr0.tmps lo s X) (Q:cT ops fr0 cs k base s X D E K tsR hR (j::l) frC csC w) (hm:fr0.mode= .run) (ho:ops[j]? =some o) (hr:isReady s.ax j o=true)
   (hd:pX tab sub ops fr0.nt j o s= .ok s2) (hready:∀p∈eT o,X p):bQ tab ops fr0.nt fr0.tmps lo s2 (fun i=>X i\/i=j)/\mI P ops fr0 cs k base s2 (fun i=>X i\/i=j) D E K lo l frC csC w:=by
 unfold pX at hd;obtain⟨_,hck,hd1⟩:=af.1 hd;obtain⟨b,hb,hd2⟩:=af.1 hd1;obtain⟨_,hbt,hd3⟩:=af.1 hd2;obtain⟨⟨v,h1⟩,hp,hd4⟩:=af.1 hd3;obtain⟨_,hle,hd5⟩:=af.1 hd4;obtain⟨_,hrr,hd6⟩:=af.1 hd5;clear hd hd1 hd2 hd3 hd4 hd5
 cases hd6;have hok:=bY.1 hck;have hbt:b=true:=bY.1 hbt;subst hbt;have hle:=Ag (bY.1 hle);obtain⟨hnone,hpre⟩:=kq hr;obtain⟨hok1,hok2⟩:=p7 hok;have hxj:¬X j:=fun h=>by have:=H.cx j h;rw[hnone]at this;cases this
 have hanX:∀p∈cI s.ax o,X p:=by
   intro p hp;rcases cO.1 hp with h|⟨q,hq,ap,h1,h2⟩
   . exact hready p h
   . exact H.lH q ap (hready q hq) h1 p h2
 generalize hhid:(s.ai.filter fun x=> !(bx x.1 (cI s.ax o)))=hid at*
 have hidm:∀x,x∈hid↔x∈s.ai/\x.1∉cI s.ax o:=by
   intro x;rw[<-hhid,AL];constructor
   . rintro⟨h1,h2⟩;refine⟨h1,fun hm=>?_⟩;rw[bO.2 hm]at h2;cases h2
   . rintro⟨h1,h2⟩;refine⟨h1,?_⟩
     cases hb:bx x.1 (cI s.ax o)with
     |true=>exact absurd (bO.1 hb) h2
     |false=>rfl
 have hidj:∀x∈hid,x.1≠j:=by
   intro x hx e;have:=(H.al x ((hidm x).1 hx).1).2.1;rw[e,hnone]at this;cases this
 have hl:∀t∈looks ops o,tsR.get t=s.ts.get t:=by
   intro t ht;by_cases hw:∃jj oj,ops[jj]? =some oj/\oj.dst=some t/\(s.ax.get jj).isSome
   . obtain⟨jj,oj,g1,g2,g3⟩:=hw;exact Q.jX jj oj t (hready jj (hok1 t ht jj oj g1 g2 g3)) g1 g2
   . rw[Q.jW t (fun jj oj hx hoj hd=>hw ⟨jj,oj,hoj,hd,H.cx jj hx⟩),H.kI t (fun jj oj hc hoj hd=>hw ⟨jj,oj,hoj,hd,hc⟩)]
 obtain⟨hops,hwant⟩:=rM hl;have a:=gI Q.rel hm rfl ho (by rw[hwant];exact hb);have hfin:=rB (fr0:=fr0) (tsR:=tsR) (l:=l) (k:=k) ho v;let h2:=restore h1 s.h hid
 let pd:=hid.filter fun x=>decide (¬(X x.1\/x.1=j))
 let hR2:=eU h2 pd
 have hg2:∀i,h2.get i=if ∃x∈hid,x.2=i then s.h.get i else h1.get i:=fun i=>jA _ _ _ _
 have hn2:h2.next=h1.next:=mj _ _ _;have hchar:∀i ob,hR2.get i=some ob↔h2.get i=some ob/\ ∀x∈hid,x.2=i->X x.1\/x.1=j:=by
   intro i ob;simp only[hR2,eV];constructor
   . intro h;split at h
     . cases h
     . rename_i hne;refine⟨h,fun x hx e=>?_⟩;by_cases hc:X x.1\/x.1=j
       . exact hc
       . exact absurd ⟨x,by simp only[pd,AL];exact⟨hx,by simpa using hc⟩,e⟩ hne
   . rintro⟨h1,h2⟩;rw[Ae]
     . exact h1
     . rintro⟨x,hx,e⟩;simp only[pd,AL]at hx;have:=h2 x hx.1 e;exact absurd this (by simpa using hx.2)
 have hR2n:hR2.next=h1.next:=(fw _ _).trans hn2;have hgets:=GL ok hsub hext Q.rel a (h0:=eU s.h hid) (h1:=h1) (h2:=hR2) (v:=v) (by rw[Ca o hops];exact hp) hfin
   (by
     intro i ob h;rw[eV]at h;split at h
     . cases h
     . rename_i hne;refine(Q.hr i ob).2 ⟨h,fun x hx e=>?_⟩;by_cases hc:x.1∈cI s.ax o
       . exact hanX _ hc
       . exact absurd ⟨x,(hidm x).2 ⟨hx,hc⟩,e⟩ hne)
   (by
     intro i ob h;rw[eV]at h;split at h
     . cases h
     . rw[fw];exact H.hd i ob h)
   (by
     intro i ob h;obtain⟨h3,h4⟩:=(hchar i ob).1 h;rw[hg2]at h3;split at h3
     . rename_i hex;right;refine⟨(Q.hr i ob).2 ⟨h3,fun x hx e=>?_⟩,by rw[eV,Ai hex]⟩;obtain⟨y,hy,e'⟩:=hex;have:x=y:=H.kh x hx y ((hidm y).1 hy).1 (e.trans e'.symm);subst this;exact(h4 x hy e').resolve_right (hidj x hy)
     . exact .inl h3)
   (by
     intro i ob h;obtain⟨h3,_⟩:=(hchar i ob).1 h;rw[hg2]at h3;rw[hR2n];split at h3
     . have:=H.hd i ob h3;left;omega
     . exact .inr ⟨h3,Aj _⟩)
   (by rw[fw];exact hle) hR2n (by intro i hi;rw[fw,<-Q.hn];exact Q.rel.cN i hi)
 obtain⟨frC',csC',w',E1,D1,s1,rel1,ag1,dd1,kp1,_,new1⟩:=hgets;rw[fw]at new1;have hdom2:∀i ob,h2.get i=some ob->i<h2.next:=by
   intro i ob h;rw[hn2];rw[hg2]at h;split at h
   . have:=H.hd i ob h;omega
   . rename_i hne;have h3:=(hchar i ob).2 ⟨by rw[hg2,Ae hne];exact h,fun x hx e=>absurd ⟨x,hx,e⟩ hne⟩;have:=(rel1.all E1 (ag.refl _ _)).1.cN i ob h3;rw[<-hR2n];exact this
 refine⟨?_,eB fr0.nt tsR o v,hR2,frC',csC',w',D1,E1,s1,⟨rel1,hchar,hR2n.trans hn2.symm,?_,?_,?_⟩,ag1,dd1,kp1,?_⟩
 . refine H.fN ho hr hok hanX rfl rfl (by simp only;rw[mj];exact hle) (fun x hx=>((hidm x).1 hx).1) (fun x hx hn=>(hidm x).2 ⟨hx,hn⟩) ?_ hdom2 ?_
   . intro x hx;show h2.get x.2=s.h.get x.2
     rw[hg2,Ai ⟨x,hx,rfl⟩]
   . intro j' oj tj vj hmr hjan hoj hce hca;have hmf:(j',tj,vj)∈s.reads.filter (fun x=> !(bx x.1 (cI s.ax o))):=by
       rw[AL];refine⟨hmr,?_⟩
       cases hb:bx j' (cI s.ax o)with
       |true=>exact absurd (bO.1 hb) hjan
       |false=>rfl
     refine⟨hmf,?_⟩;obtain⟨oj',hr',g1,g2⟩:=wy _ hrr _ _ _ hmf;rw[hoj]at g1
     cases g1;have hsame:=ph ⟨hce,hca⟩ g2;subst hsame;refine⟨_,g2,?_⟩;intro b ob hg;rw[eV]at hg;split at hg
     . cases hg
     . rename_i hne;exact⟨by rw[fw];exact hdom2 b ob hg,hg,fun x hx e=>hne ⟨x,hx,e⟩⟩
 . intro i oi t hi hoi hd;show(eB fr0.nt tsR o v).get t=(eB fr0.nt s.ts o v).get t
   rw[gz,gz];by_cases hc:o.dst=some t/\t<fr0.nt
   . rw[Ai hc,Ai hc]
   . rw[Ae hc,Ae hc];rcases hi with hi|rfl
     . exact Q.jX i oi t hi hoi hd
     . rw[ho]at hoi
       cases hoi;have hge:fr0.nt<=t:=BX (fun hlt=>hc ⟨hd,hlt⟩);rw[H.mR t hge];exact Q.rel.wf.1 t hge
 . intro t ht;rw[gz,Ae (fun h=>ht j o (.inr rfl) ho h.1)];exact Q.jW t (fun i oi hi hoi=>ht i oi (.inl hi) hoi)
 . intro x hx hnx hD;have hxm:=((hidm x).1 hx).1;rcases new1 x.2 hD with hd|hd
   . exact Q.dp x hxm (fun h=>hnx (.inl h)) hd
   . have:=(H.al x hxm).1;omega
 . intro i hi;rcases new1 i hi with h|h
   . exact .inl h
   . exact .inr (AG H.nx h)
end
end
section
variable [Inhabited aE]
theorem aU.same {E:Env} {h h':AH} {K:KS} {w:World} (H:aU E h K w) (hg:∀i ob,h'.get i=some ob->h.get i=some ob) (hn:h.next<=h'.next):aU E h' K w:=
 ⟨fun i o hi=>H.obj i o (hg i o hi),fun i o hi=>H.nk i o (hg i o hi),fun i j oi oj hi hj=>H.inj i j oi oj (hg i oi hi) (hg j oj hj),fun i o hi=>Bd (H.cN i o (hg i o hi)) hn,H.kb,fun i o hi=>H.im i o (hg i o hi),H.k0⟩
section
variable {tab:aM} {D:Nat->Prop} {E:Env} {K:KS} {base:List Frame} {frC:Frame} {csC:List Frame} {w:World}
variable {ops:Array Oper} {fr0:ae} {cs:List ae} {k:List aT} {lo:Nat} {s s':DS} {X:Nat->Prop} {tsR:T AV} {hR:AH} {j:Nat} {l:List Nat} {o:Oper}
theorem cT.look (H:bQ tab ops fr0.nt fr0.tmps lo s X) (Q:cT ops fr0 cs k base s X D E K tsR hR l frC csC w)
   (ht:∀j o t,X j->ops[j]? =some o->o.dst=some t->s'.ts.get t=s.ts.get t) (hn:s.h.next<=s'.h.next)
   (hg:∀i ob,(s'.h.get i=some ob/\ ∀x∈s'.ai,x.2=i->X x.1)↔(s.h.get i=some ob/\ ∀x∈s.ai,x.2=i->X x.1))
   (ha:∀x∈s'.ai,x∈s.ai\/s.h.next<=x.2):cT ops fr0 cs k base s' X D E K tsR {hR with next:=s'.h.next} l frC csC w:=by
 have hget:∀i,({hR with next:=s'.h.next}:AH).get i=hR.get i:=fun _=>rfl
 refine⟨⟨fun E' he=>?_,fun i hi=>?_,Q.rel.wf⟩,?_,rfl,?_,Q.jW,?_⟩
 . obtain⟨g1,g2,g3⟩:=Q.rel.all E' he;exact⟨g1.same (fun i ob h=>h) (by simp only;rw[Q.hn];exact hn),g2,g3⟩
 . have:=Q.rel.cN i hi;simp only at this⊢;rw[Q.hn]at this;omega
 . intro i ob;rw[hget,Q.hr i ob,hg i ob]
 . intro j o t hx ho hd;rw[Q.jX j o t hx ho hd,ht j o t hx ho hd]
 . intro x hx hnx hd;rcases ha x hx with h|h
   . exact Q.dp x h hnx hd
   . have:=Q.rel.cN _ hd;simp only at this;rw[Q.hn]at this;omega
theorem xv:∀(l:List Oper) (k:Nat),kH k l=true->∀j o,l[j]? =some o->∀p∈eT o,p<k+j:=by
 intro l;induction l with
 |nil=>intro k _ j o h;simp at h
 | cons x l ih=>
  intro k h j o hj p hp;simp only[kH,Ab,Av]at h
  cases j with
  |zero=>
   simp only[Aw,Az]at hj;subst hj;have:=h.1 p hp;simpa using this
  |succ j=>
   have:=ih (k+1) h.2 j o (by simpa using hj) p hp;omega
end
section
variable {tab:aM} {D:Nat->Prop} {E:Env} {K:KS} {base:List Frame} {frC:Frame} {csC:List Frame} {w:World}
variable {ops:Array Oper} {fr0:ae} {cs:List ae} {k:List aT} {lo:Nat} {X:Nat->Prop} {tsR:T AV} {l:List Nat}
theorem E0 {s s':DS} {i:Nat} {o:Oper} {hR:AH} (hf:lg tab ops fr0.nt i o s= .ok (some s')) (hi:ops[i]? =some o) (hr:isReady s.ax i o=true) (H:bQ tab ops fr0.nt fr0.tmps lo s X)
  (Q:cT ops fr0 cs k base s X D E K tsR hR l frC csC w):∃hR',cT ops fr0 cs k base s' X D E K tsR hR' l frC csC w:=by
 obtain⟨hnone,_⟩:=kq hr;have hxi:¬X i:=fun h=>by have:=H.cx i h;rw[hnone]at this;cases this
 have hput:∀(v:AV) j oj t,X j->ops[j]? =some oj->oj.dst=some t->(eB fr0.nt s.ts o v).get t=s.ts.get t:=by
  intro v j oj t hx ho hd;rw[gz,Ae];rintro⟨h,_⟩;have:=H.uniq j i oj o t (H.cx j hx) ho hi hd h;exact hxi (this▸hx)
 have hsame:∀(v:AV) (s2:DS),s2.ts=eB fr0.nt s.ts o v->s2.h=s.h->s2.ai=s.ai->∃hR',cT ops fr0 cs k base s2 X D E K tsR hR' l frC csC w:=by
  intro v s2 e1 e2 e3;refine⟨_,Q.look H (s':=s2) ?_ (by rw[e2];exact Aj _) (fun i ob=>by rw[e2,e3]) (fun x hx=> .inl (by rw[<-e3];exact hx))⟩;intro j oj t hx ho hd;rw[e1];exact hput v j oj t hx ho hd
 unfold lg at hf;obtain⟨_,hck,hf1⟩:=af.1 hf;obtain⟨b,hb,hf2⟩:=af.1 hf1;clear hf hf1
 cases b with
 |false=>
  simp only[Du,AK]at hf2
  cases hf2;exact hsame _ _ rfl rfl rfl
 | true =>
  simp only[BQ,Ah,Ax]at hf2;split at hf2
  . cases hf2
  . obtain⟨⟨u,h1⟩,hp,hf3⟩:=af.1 hf2;obtain⟨_,hn,hf4⟩:=af.1 hf3;obtain⟨ob,hob,hf5⟩:=af.1 hf4
    cases hf5;refine⟨_,Q.look H (hput u) (by simp) ?_ ?_⟩
    . intro i' ob';simp only;rw[AH.aF];by_cases e:i'=s.h.next
      . subst e;rw[Ai rfl];constructor
        . rintro⟨_,h2⟩;exact absurd (h2 _ Al rfl) hxi
        . rintro⟨h1,_⟩;have:=H.hd _ _ h1;omega
      . rw[Ae e];constructor
        . rintro⟨h1,h2⟩;exact⟨h1,fun x hx e'=>h2 x (Ap _ hx) e'⟩
        . rintro⟨h1,h2⟩;refine⟨h1,fun x hx e'=>?_⟩;rcases An.1 hx with rfl|hx
          . exact absurd e'.symm e
          . exact h2 x hx e'
    . intro x hx;rcases An.1 hx with rfl|hx
      . exact .inr (Aj _)
      . exact .inl hx
  . split at hf2
    . rename_i u h1 hm';obtain⟨_,hn,hf3⟩:=af.1 hf2
      cases hf3;exact hsame _ _ rfl rfl rfl
    . split at hf2
      . rename_i u h1 hp
        cases hf2;exact hsame _ _ rfl rfl rfl
      . cases hf2
theorem po:∀(l':List Oper) (n:Nat) (s s':DS) (hR:AH),(∀j o,l'[j]? =some o->ops[n+j]? =some o)->gx tab ops fr0.nt n l' s= .ok s'->bQ tab ops fr0.nt fr0.tmps lo s X->
  cT ops fr0 cs k base s X D E K tsR hR l frC csC w->∃hR',cT ops fr0 cs k base s' X D E K tsR hR' l frC csC w:=by
 intro l';induction l' with
 |nil=>intro n s s' hR _ h H Q;simp only[gx]at h;cases h;exact⟨hR,Q⟩
 |cons o l' ih=>
  intro n s s' hR hl h H Q;have hl':∀j o',l'[j]? =some o'->ops[n+1+j]? =some o':=by
    intro j o' hj;have:=hl (j+1) o' (by simpa using hj);rw[show n+1+j=n+(j+1)from by omega];exact this
  simp only[gx]at h;by_cases hr:isReady s.ax n o=true
  . simp only[hr,AY]at h;obtain⟨x,hx,h1⟩:=af.1 h
    cases x with
    |none=>exact ih (n+1) s s' hR hl' h1 H Q
    |some s1=>
     have hin:ops[n]? =some o:=by simpa using hl 0 o rfl
     obtain⟨hR1,Q1⟩:=E0 hx hin hr H Q;exact ih (n+1) s1 s' hR1 hl' h1 (vi hx hin hr H) Q1
  . have:isReady s.ax n o=false:=by simpa using hr
    simp only[this,AB]at h;exact ih (n+1) s s' hR hl' h H Q
end
end
section
variable [Inhabited aE]
def cL (listed:Array Bool) (j:Nat):Prop:=listed.getD j false=true
def jk (n:Nat) (listed:Array Bool):Nat:=((List.range n).filter fun i=> !listed.getD i false).length
theorem Cd {p q:Nat->Bool} {i:Nat}:∀(l:List Nat),(∀j,q j=true->p j=true)->i∈l->p i=true->q i=false->(l.filter q).length+1<=(l.filter p).length:=by
 intro l;induction l with
 |nil=>intro _ h;cases h
 |cons x l ih=>
  intro hqp hi hp hq;rcases An.1 hi with rfl|hi
  . rw[B0,B0,Ai hp,Ae (by rw[hq];simp),AR];have:(l.filter q).length<=(l.filter p).length:=by
      rw[<-Ea,<-Ea];exact List.countP_mono_left (fun x _=>hqp x)
    omega
  . have:=ih hqp hi hp hq;rw[B0,B0];by_cases h1:q x=true
    . rw[Ai h1,Ai (hqp x h1)];simp only[AR];omega
    . rw[Ae h1];by_cases h2:p x=true
      . rw[Ai h2];simp only[AR];omega
      . rw[Ae h2];exact this
theorem pT {listed:Array Bool} {i:Nat} (hi:i<listed.size):cL (listed.setIfInBounds i true)=fun j=>cL listed j\/j=i:=by
 funext j
 apply propext;unfold cL;rw[BE,BE,Bq];by_cases h:i=j
 . subst h;simp[hi]
 . have:¬j=i:=fun e=>h e.symm
   simp[h,this]
theorem x5 {n:Nat} {listed:Array Bool} {i:Nat} (hi:i<n) (hs:i<listed.size) (hx:¬cL listed i):jk n (listed.setIfInBounds i true)+1<=jk n listed:=by
 refine Cd _ ?_ (DK.2 hi) (by unfold cL at hx;simpa using hx) ?_
 . intro j hj;have h1:¬cL (listed.setIfInBounds i true) j:=by unfold cL;simpa using hj
   rw[pT hs]at h1;have:¬cL listed j:=fun h=>h1 (.inl h)
   unfold cL at this;simpa using this
 . have:cL (listed.setIfInBounds i true) i:=by rw[pT hs];exact .inr rfl
   unfold cL at this;simp[this]
theorem xi {n:Nat} {listed:Array Bool} (h:jk n listed=0):∀j,j<n->cL listed j:=by
 intro j hj;unfold jk at h;have:=AF h;rw[Es]at this;have:=this j (DK.2 hj);unfold cL;simpa using this
end
section
variable [Inhabited aE]
section
variable {P:Program} {tab:aM} (ok:aV P tab) {sub:FuncId->List AV->AH->R (List (AV×AH))} (hsub:fQ P tab sub) (hext:fW P tab)
variable {K:KS} {base:List Frame}
variable {ops:Array Oper} {fr0:ae} {cs:List ae} {k:List aT} {lo:Nat}
def Fin (P:Program) (fr0:ae) (cs:List ae) (k:List aT) (base:List Frame) (K:KS) (lo:Nat) (sF:DS) (D:Nat->Prop) (E:Env) (frC:Frame) (csC:List Frame) (w:World):Prop:=
 ∃frC' csC' w' D' E',Steps P (lone frC csC w) (lone frC' csC' w')/\Rel D' E' K {fr:={fr0 with tmps:=sF.ts,todo:=k},cs,h:=sF.h} base frC' csC' w'/\ag D E E'/\(∀i,D i->D' i)/\Kept K w w'/\(∀i,D' i->D i\/lo<=i)/\lo<=sF.h.next
def jn (tab:aM) (sub:FuncId->List AV->AH->R (List (AV×AH))) (ops:Array Oper) (nt:Nat) (s sF:DS):Prop:=
 (fB s.ax 0 ops.toList=[]/\sF=s)\/ ∃c o n s2,fB s.ax 0 ops.toList=[(c,o)]/\pX tab sub ops nt c o s= .ok s2/\mn tab sub ops nt n s2= .ok sF
theorem wu {nt n:Nat} {s sF:DS} (h:mn tab sub ops nt n s= .ok sF):∃s1,gx tab ops nt 0 ops.toList s= .ok s1/\jn tab sub ops nt s1 sF:=by
 cases n with
 |zero=>simp only[mn]at h;cases h
 |succ n=>
  simp only[mn]at h;obtain⟨s1,h1,h2⟩:=af.1 h;refine⟨s1,h1,?_⟩;split at h2
  . rename_i hc;obtain⟨_,_,h3⟩:=af.1 h2
    cases h3;exact .inl ⟨hc,rfl⟩
  . rename_i c o hc;obtain⟨s2,h3,h4⟩:=af.1 h2;exact .inr ⟨c,o,n,s2,hc,h3,h4⟩
  . cases h2
include ok hsub hext in
theorem zq (hm:fr0.mode= .run) (hlt:kH 0 ops.toList=true):∀(fuel t:Nat) (listed:Array Bool) (s sF:DS) (D:Nat->Prop) (E:Env) (tsR:T AV) (hR:AH) (frC:Frame) (csC:List Frame) (w:World),
  listed.size=ops.size->jk ops.size listed<=fuel->jn tab sub ops fr0.nt s sF->bQ tab ops fr0.nt fr0.tmps lo s (cL listed)->
  cT ops fr0 cs k base s (cL listed) D E K tsR hR (Region.linearise.go .any ops fuel t listed []) frC csC w->Fin P fr0 cs k base K lo sF D E frC csC w:=by
 have hend:∀(listed:Array Bool) (s sF:DS) (D:Nat->Prop) (E:Env) (tsR:T AV) (hR:AH) (frC:Frame) (csC:List Frame) (w:World),(∀j,j<ops.size->cL listed j)->
    jn tab sub ops fr0.nt s sF->bQ tab ops fr0.nt fr0.tmps lo s (cL listed)->cT ops fr0 cs k base s (cL listed) D E K tsR hR [] frC csC w->Fin P fr0 cs k base K lo sF D E frC csC w:=by
  intro listed s sF D E tsR hR frC csC w hall htodo H Q;rcases htodo with⟨_,rfl⟩|⟨c,o,n,s2,hc,_,_⟩
  . have hts:∀t,tsR.get t=sF.ts.get t:=by
      intro t;by_cases hw:∃(j:Nat) (oj:Oper),ops[j]? =some oj/\oj.dst=some t
      . obtain⟨j,oj,h1,h2⟩:=hw;exact Q.jX j oj t (hall j (Ad.1 h1).1) h1 h2
      . rw[Q.jW t (fun j oj _ h1 h2=>hw ⟨j,oj,h1,h2⟩),H.kI t (fun j oj _ h1 h2=>hw ⟨j,oj,h1,h2⟩)]
    have hst:∀E',Go.step P (lone (aL E' {fr0 with tmps:=tsR,todo:= .inRegion ops []::k}) csC w)= .next (lone (aL E' {fr0 with tmps:=tsR,todo:=k}) csC w):=
      fun E'=>step_lone_go (by simp[stepG,stepG.exec,aL,hm,dh,bV])
    have hconc:∀E',aL E' {fr0 with tmps:=sF.ts,todo:=k}=aL E' {fr0 with tmps:=tsR,todo:=k}:=by
      intro E';have:dK E' sF.ts fr0.nt=dK E' tsR fr0.nt:=by
        unfold dK ow;simp only[hts]
      simp only[aL,this]
    have hfr:=(Q.rel.all E (ag.refl _ _)).2.1;simp only at hfr;refine⟨aL E {fr0 with tmps:=tsR,todo:=k},csC,w,D,E, .one (by rw[<-hfr];exact hst E),⟨fun E' he=>?_,fun i hi=>?_,?_,Q.rel.wf.2⟩,ag.refl _ _,fun _ h=>h,Kept.refl K w,fun i hi=> .inl hi,H.nx⟩
    . obtain⟨g1,g2,g3⟩:=Q.rel.all E' he;refine⟨g1.same (fun i ob h=>(Q.hr i ob).2 ⟨h,fun x hx _=>?_⟩) (by simp only;rw[Q.hn];exact Aj _),?_,g3⟩
      . obtain⟨o,ho⟩:=H.op _ (H.al x hx).2.1;exact hall _ (Ad.1 ho).1
      . simp only;rw[hconc E'];have h1:=hst E';simp only at g2;rw[g2,<-hfr,hst E]at h1;exact(lp (by simpa using h1)).1.symm
    . have:=Q.rel.cN i hi;simp only at this⊢;rw[Q.hn]at this;exact this
    . intro t ht;have:=Q.rel.wf.1 t ht;simp only at this⊢;rw[<-hts t];exact this
  . have hcm:(c,o)∈fB s.ax 0 ops.toList:=by rw[hc];exact Al
    obtain⟨j',h1,h2,h3⟩:=u2 _ _ _ _ _ hcm;have hlt':c<ops.size:=by
      have:=(Ac.1 h2).1;simp at this;omega
    have:=H.cx c (hall c hlt');rw[(kq h3).1]at this
    cases this
 intro fuel;induction fuel with
 |zero=>
  intro t listed s sF D E tsR hR frC csC w hsz hu htodo H Q;exact hend listed s sF D E tsR hR frC csC w (xi (by omega)) htodo H (by simpa [Region.linearise.go]using Q)
 | succ fuel ih=>
  intro t listed s sF D E tsR hR frC csC w hsz hu htodo H Q;simp only[Region.linearise.go]at Q;change cT ops fr0 cs k base s (cL listed) D E K tsR hR (match(Region.ready .any ops listed)[t % (Region.ready .any ops listed).length]? with
    |some i=>Region.linearise.go .any ops fuel (t / (Region.ready .any ops listed).length) (listed.setIfInBounds i true) [i]
    |none=>[].reverse) frC csC w at Q
  have hget:∀j,j<ops.size->(listed.getD j true=false↔¬cL listed j):=by
    intro j hj;unfold cL;have:j<listed.size:=by omega
    simp[Array.getD,this]
  cases hi:(Region.ready .any ops listed)[t % (Region.ready .any ops listed).length]? with
  | none=>
    rw[hi]at Q;have hnil:Region.ready .any ops listed=[]:=by
      cases hr:Region.ready .any ops listed with
      |nil=>rfl
      | cons x xs=>
        rw[hr]at hi;have hlt:t % (x::xs).length<(x::xs).length:=Eb _ (by simp);rw[Dw]at hi;omega
    have hall:∀j,j<ops.size->cL listed j:=by
      intro j;induction j using Nat.strongRecOn with
      | _ j ihj=>
        intro hj;by_cases hx:cL listed j
        . exact hx
        . exfalso;have hm':j∈Region.ready .any ops listed:=by
           rw[mem_ready];refine⟨(hget j hj).2 hx,ops[j],AU hj,?_⟩;intro e he hb;have hp:e.on∈eT ops[j]:=A1.2 ⟨e,AL.2 ⟨by simpa using he,hb⟩,rfl⟩;have hlt':=xv ops.toList 0 hlt j ops[j] (by simp[hj]) e.on hp;exact ihj e.on (by omega) (by omega)
          rw[hnil]at hm'
          cases hm'
    exact hend listed s sF D E tsR hR frC csC w hall htodo H Q
  | some i =>
    rw[hi]at Q;simp only at Q;rw[linearise_go_acc,Eo,DI]at Q;obtain⟨hl1,o,ho,hdeps⟩:=mem_ready.1 (Br hi);have hin:i<ops.size:=(Ad.1 ho).1;have hx:=(hget i hin).1 hl1;have hready:∀p∈eT o,cL listed p:=by
      intro p hp;obtain⟨e,he,rfl⟩:=A1.1 hp;obtain⟨he1,he2⟩:=AL.1 he;exact hdeps e (by simpa using he1) he2
    have hsz':(listed.setIfInBounds i true).size=ops.size:=by simp[hsz]
    have hu':jk ops.size (listed.setIfInBounds i true)<=fuel:=by
      have:=x5 hin (by omega) hx;omega
    have hX':cL (listed.setIfInBounds i true)=fun j=>cL listed j\/j=i:=pT (by omega)
    have hfin:∀(s':DS),jn tab sub ops fr0.nt s' sF->bQ tab ops fr0.nt fr0.tmps lo s' (fun j=>cL listed j\/j=i)->
        mI P ops fr0 cs k base s' (fun j=>cL listed j\/j=i) D E K lo (Region.linearise.go .any ops fuel (t / (Region.ready .any ops listed).length) (listed.setIfInBounds i true) []) frC csC w->Fin P fr0 cs k base K lo sF D E frC csC w:=by
      intro s' htd H' hc;obtain⟨tsR',hR',frC',csC',w',D',E',c1,c2,c3,c4,c5,c6⟩:=hc;obtain⟨frF,csF,wF,DF,EF,f1,f2,f3,f4,f5,f6,f7⟩:=ih _ (listed.setIfInBounds i true) s' sF D' E' tsR' hR' frC' csC' w' hsz' hu' htd (by rw[hX'];exact H') (by rw[hX'];exact c2);exact⟨frF,csF,wF,DF,EF,c1.trans f1,f2,c3.trans f3 c4,fun x hx=>f4 x (c4 x hx),c5.trans f5,fun x hx=>(f6 x hx).elim (c6 x) .inr,f7⟩
    by_cases hC:(s.ax.get i).isSome=true
    . exact hfin s htodo (H.mV hC ho hready) (vS ok H Q hm ho hC hx hready)
    . have hr:isReady s.ax i o=true:=by
        unfold isReady;simp only[Ab,Av];exact⟨by simpa using hC,fun p hp=>H.cx p (hready p hp)⟩
      have hcm:(i,o)∈fB s.ax 0 ops.toList:=by
        have:=wS ops.toList 0 s.ax i o (by simpa using ho) (by simpa using hr);simpa using this
      rcases htodo with⟨hc,_⟩|⟨c,o',n,s2,hc,hd,hloop⟩
      . rw[hc]at hcm;cases hcm
      . rw [hc]at hcm;rcases An.1 hcm with e|hcm
        . cases e;obtain⟨H2,tsR',hR',frC',csC',w',D',E',c1,c2,c3,c4,c5,c6⟩:=Gq ok hsub hext H Q hm ho hr hd hready;obtain⟨s3,hpass,htd3⟩:=wu hloop;have hpl:∀j o,ops.toList[j]? =some o->ops[0+j]? =some o:=by
           intro j o hj;simpa using hj
          obtain⟨hR3,Q3⟩:=po ops.toList 0 s2 s3 hR' hpl hpass H2 c2;exact hfin s3 htd3 (pf ops.toList 0 s2 s3 hpl hpass H2) ⟨tsR',hR3,frC',csC',w',D',E',c1,Q3,c3,c4,c5,c6⟩
        . cases hcm
end
end
section
variable [Inhabited aE]
section
variable {P:Program} {tab:aM} (ok:aV P tab) {sub:FuncId->List AV->AH->R (List (AV×AH))} (hsub:fQ P tab sub) (hext:fW P tab)
theorem ml (n j:Nat):¬cL (Array.replicate n false) j:=by
 unfold cL;rw[BE,Ej];split<;>simp
include ok hsub hext in
theorem o9 (hmix:P.follows .mixedOrders=true):og P tab sub:=by
 intro fr cs h id ops k ts h' hm ht hd D E K base frC csC w hR;unfold draw at hd;obtain⟨_,hlt,hd1⟩:=af.1 hd;obtain⟨sF,hloop,hd2⟩:=af.1 hd1
 cases hd2;have hlt:=bY.1 hlt;let s0:DS:={ts:=fr.tmps,h,ax:= .e,reads:=[],ai:=[]}
 let ord:=w.tape w.drawn (.order frC.fn id)
 let l:=Region.linearise.go .any ops ops.size ord (Array.replicate ops.size false) []
 have hstep:∀E',ag D E E'->Go.step P (lone frC csC w)= .next (lone (aL E' {fr with tmps:=fr.tmps,todo:= .inRegion ops l::k}) csC w.drew):=by
  intro E' he;have e1:=(hR.all E' he).2.1;simp only at e1;refine step_lone_go ?_;have hmC:frC.mode= .run:=by rw[<-e1];simp[aL,hm,dh]
  have htC:frC.todo= .code (.region id ops true)::k.map (bV E'):=by rw[<-e1];simp[aL,ht,bV]
  have hrun:(choose (.order frC.fn id)).run P w= .ok ord w.drew:=by
    simp only[choose,Sem.run,Question.forced,Ah,Ax,Question.cut];rfl
  have hsch:Region.schedule (P.follows .mixedOrders) ops ord=l:=by
    simp only[Region.schedule,hmix,Bool.true_or,AK];rfl
  have hgoal:aL E' {fr with tmps:=fr.tmps,todo:= .inRegion ops l::k}={frC with todo:= .inRegion ops l::k.map (bV E')}:=by
    rw[<-e1];rfl
  rw[hgoal];unfold stepG stepG.exec;simp only[hmC,htC,BQ,Ah,Ax,hrun,hsch,GStep.bare_go]
 have hdom:=(hR.all E (ag.refl _ _)).1.cN;have H0:bQ tab ops fr.nt fr.tmps h.next s0 (cL (Array.replicate ops.size false)):=by
  have hnone:∀j,s0.ax.get j=none:=fun _=>rfl
  refine⟨fun j hj=>absurd hj (ml _ _),fun j a hj=>absurd hj (ml _ _),?_,?_,?_,fun _ _=>rfl,?_,fun x hx=>(by cases hx),Aj _,hR.wf.1,fun x hx=>(by cases hx),hdom⟩
  . intro j hj;rw[hnone]at hj;cases hj
  . intro j a o hj;rw[hnone]at hj;cases hj
  . intro i j oi oj d hi;rw[hnone]at hi;cases hi
  . intro j hj;rw[hnone]at hj;cases hj
 have Q0:cT ops fr cs k base s0 (cL (Array.replicate ops.size false)) D E K fr.tmps h l (aL E {fr with tmps:=fr.tmps,todo:= .inRegion ops l::k}) csC w.drew:=by
  refine⟨⟨fun E' he=>?_,hR.cN,hR.wf⟩,fun i ob=>⟨fun h=>⟨h,fun x hx=>(by cases hx)⟩,fun h=>h.1⟩,rfl,fun j o t hx=>absurd hx (ml _ _),fun _ _=>rfl,fun x hx=>by cases hx⟩;obtain⟨g1,g2,g3⟩:=hR.all E' he;refine⟨g1.drew,?_,g3⟩;have h1:=hstep E' he;rw[hstep E (ag.refl _ _)]at h1;exact(lp (by simpa using h1)).1.symm
 obtain⟨s1,hpass,htodo⟩:=wu hloop;have hpl:∀j o,ops.toList[j]? =some o->ops[0+j]? =some o:=by
  intro j o hj;simpa using hj
 obtain⟨hR1,Q1⟩:=po ops.toList 0 s0 s1 h hpl hpass H0 Q0;have H1:=pf ops.toList 0 s0 s1 hpl hpass H0;obtain⟨frC',csC',w',D',E',f1,f2,f3,f4,f5,f6,f7⟩:=zq ok hsub hext hm hlt ops.size ord (Array.replicate ops.size false) s1 sF D E fr.tmps hR1 _ csC w.drew (by simp)
  (by unfold jk;have:=Dj (fun i=> !(Array.replicate ops.size false).getD i false) (List.range ops.size);simpa using this) htodo H1 Q1
 exact⟨frC',csC',w',E',D',Steps.head (hstep E (ag.refl _ _)) f1,f2,f3,f4,(Kept.drew K w).trans f5,f7,f6⟩
end
end
section
variable [Inhabited aE]
def ji (tag:Nat) (fn:Func):Array Value->Sem Value:=
 match tag with
 |1=>Extern.BytealgCompare.compare
 |2=>Extern.AbiNoEscape.same
 |3=>Extern.BytealgMakeNoZero.makeNoZero fn.params fn.resultTypes
 |5=>Extern.BytealgIndexByte.indexByte
 |_=>Extern.SlicesOverlaps.overlaps fn.params fn.resultTypes
def dS (P:Program) (tab:aM):Prop:=∀f tag fn,tab.ext.get f=some tag->tab.fns.get f=some fn->Extern.findNext fn=none/\Extern.find fn=some (ji tag fn)
theorem HT (ps rs:Array TypeId) (n:Int):Extern.BytealgMakeNoZero.makeNoZero ps rs #[.int .i64 n]=(do
 let some t:=rs[0]? |stuck "bytealg.MakeNoZero: no result type"
 let .slice elem<-underlying t|stuck "bytealg.MakeNoZero: slice type expected"
 if n<0||n>2 ^ 48 then runtimePanic (.error "makeslice: len out of range")
 let cap<-choose (.appendCap n.toNat 0 elem)
 askRoom cap
 let bytes<-choose (.extern "internal/bytealg.MakeNoZero.bytes" 0)
 let a<-Go.newRow elem (Extern.BytealgMakeNoZero.digits cap bytes #[])
 pure (.slice (some a) n.toNat cap)):=rfl
theorem yh (ps rs:Array TypeId) (a b:Option Addr) (la lb ca cb:Nat):Extern.SlicesOverlaps.overlaps ps rs #[.slice a la ca, .slice b lb cb]=(do
 let some t:=ps[0]? |stuck "slices.overlaps: no parameter types"
 let .slice elem<-underlying t|stuck "slices.overlaps: slice type expected"
 let size<-sizeOf elem
 match a,b with
 | some a,some b=>
  if la=0\/lb=0\/size=0 then pure (.bool false)
  else if a.block !=b.block&&(<-Go.frozen a)&&(<-Go.frozen b)then unsupported .addressObserved
  else do
   if a.block !=b.block then do
    noView a;noView b
    if<-mayBeOne a b then return .bool ((<-choose (.extern "sameAddr.stringBytes" 2))==1)
   pure (.bool (a.block==b.block&&a.off<b.off+lb*size&&b.off<a.off+la*size))
 |_,_=>pure (.bool false)):=rfl
theorem IB (b c:Value):Extern.BytealgIndexByte.indexByte #[b,c]=(do
 let b<-Extern.Bytes.bytesOf b
 let c<-Extern.Bytes.asByte c
 match(List.range b.size).find? fun i=>b[i]! ==c with
 |some i=>pure (Go.goInt i)
 |none=>pure (Go.goInt (-1))):=rfl
theorem z6:∀(n t:Nat) (acc:Array Value),(Extern.BytealgMakeNoZero.digits n t acc).size=acc.size+n:=by
 intro n;induction n with
 |zero=>intro t acc;rfl
 |succ n ih=>intro t acc;simp only[Extern.BytealgMakeNoZero.digits,ih,Array.size_push];omega
section
variable {P:Program} {tab:aM} (ok:aV P tab) (het:dS P tab)
include ok het
theorem yb : fW P tab:=by
 intro f fn args h v h' hfn hb hx w;have hP:=ok.fns f fn hfn;unfold pN at hx;split at hx
 . rename_i tag htag;obtain⟨hn,he⟩:=het f tag fn htag hfn;have hrun:∀a (w:World),(callFunc f a).run P w=((ji tag fn a).run P w).andThen fun v w'=> .ok (.value v) w':=fun a w=>run_callFunc_extern hP (ok.nm f fn hfn) (by rw[hb];rfl) hn he a w
   unfold extern at hx;split at hx
   . cases hx;refine⟨(0,0),fun E K H _=>⟨by omega,w,?_,H,Kept.refl K w⟩⟩;rw[hrun];rfl
   . cases hx;refine⟨(0,0),fun E K H _=>⟨by omega,w,?_,H,Kept.refl K w⟩⟩;rw[hrun];rfl
   ·
     rename_i n;obtain⟨t,ht,hx1⟩:=af.1 hx;obtain⟨d,hd,hx2⟩:=af.1 hx1;have hPt:=ok.und t d (bw.1 hd);have ht:=bw.1 ht;split at hx2
     . rename_i e;obtain⟨z,hz,hx2'⟩:=af.1 hx2;obtain⟨_,hle,hx3⟩:=af.1 hx2';obtain⟨⟨h1,b⟩,hrow,hx4⟩:=af.1 hx3
       cases hx4;have hle:=bY.1 hle;simp only[Ab]at hle;have hz1:=Aa hle.2;have hle:=Ag hle.1;subst hz1;obtain⟨sz,hsz,rfl,rfl⟩:=eW hrow;rw[hz]at hsz
       cases hsz;refine⟨(w.heap.size,grownCap w n 0 e),fun E K H hE=>?_⟩;obtain⟨hE1,hE2⟩:=hE (by simp);simp only at hE1 hE2;refine⟨by simp,w.drew.drew.alloc (.cells (Extern.BytealgMakeNoZero.digits (grownCap w n 0 e) ((Question.extern "internal/bytealg.MakeNoZero.bytes" 0).cut (w.drew.tape w.drew.drawn (.extern "internal/bytealg.MakeNoZero.bytes" 0))) #[]) e),?_,?_,?_⟩
       . rw[hrun];have h1:¬((n:Int)<0):=by omega
         have h2:¬((n:Int)>2 ^ 48):=by
           have:(2:Int) ^ 48=281474976710656:=by decide
           rw[this];omega
         have hq:(Question.appendCap n 0 e).cut (w.tape w.drawn (.appendCap n 0 e))=grownCap w n 0 e:=rfl;have hor:((decide ((n:Int)<0))||(decide ((n:Int)>2 ^ 48)))=false:=by rw[BL h1,BL h2];rfl
         show(((Extern.BytealgMakeNoZero.makeNoZero fn.params fn.resultTypes #[.int .i64 (n:Int)]).run P w).andThen fun v w'=> .ok (Next.value v) w')=_
         rw[HT];simp only[ht,Sem.run_bind,underlying,run_program,Result.andThen_ok,hPt,Sem.run_pure,hor,Ah,Ax,run_choose,Question.forced,Dx,hq,World.drew_eq,run_askRoom,lk];simp[aa,dX.val,hE1,hE2]
       . exact H.drew.drew.new (by simpa using hE1) ⟨_,_,rfl,⟨_,rfl⟩,by simp[z6,hE2],rfl⟩
       . exact((Kept.drew K w).trans (Kept.drew K w.drew)).trans (Kept.alloc (by simpa using H.kb) _)
     . cases hx2
   ·
     rename_i x y;obtain⟨t,ht,hx1⟩:=af.1 hx;obtain⟨d,hd,hx2⟩:=af.1 hx1;have hPt:=ok.und t d (bw.1 hd);have ht:=bw.1 ht;split at hx2
     . rename_i e;obtain⟨sz,hsz,hx3⟩:=af.1 hx2;obtain⟨_,hck,hx4⟩:=af.1 hx3;clear hx hx1 hx2 hx3;have hs0:sz≠0:=by
         intro e;subst e;simp[R.check]at hck
       have hnone:∀(E:Env) (a b:Option Addr) (la lb ca cb:Nat),(a=none\/b=none)->((ji 4 fn #[.slice a la ca, .slice b lb cb]).run P w)= .ok (.bool false) w:=by
         intro E a b la lb ca cb hab;show(Extern.SlicesOverlaps.overlaps fn.params fn.resultTypes #[.slice a la ca, .slice b lb cb]).run P w=_
         rw[yh];simp only[ht,Sem.run_bind,underlying,run_program,Result.andThen_ok,hPt,Sem.run_pure,fV ok hsz];rcases hab with rfl|rfl
         . rfl
         . cases a<;>rfl
       split at hx4
       . cases hx4;refine⟨(0,0),fun E K H _=>⟨by omega,w,?_,H,Kept.refl K w⟩⟩;rw[hrun];simp only[aP,bH,aa];rw[hnone E _ _ _ _ _ _ (.inl rfl)];rfl
       . cases hx4;refine⟨(0,0),fun E K H _=>⟨by omega,w,?_,H,Kept.refl K w⟩⟩;rw[hrun];simp only[aP,bH,aa];rw[hnone E _ _ _ _ _ _ (.inl rfl)];rfl
       . cases hx4;refine⟨(0,0),fun E K H _=>⟨by omega,w,?_,H,Kept.refl K w⟩⟩;rw[hrun];simp only[aP,bH,aa];rw[hnone E _ _ _ _ _ _ (.inr rfl)];rfl
       . rename_i a i n ca b j m cb;split at hx4
         . rename_i ha hb';have hsame:h'=h:=by
            cases hc:(Nat.beq n 0||Nat.beq m 0)<;>rw[hc]at hx4<;>cases hx4<;>rfl
           subst hsame;refine⟨(0,0),fun E K H _=>⟨by omega,w,?_,H,Kept.refl K w⟩⟩;rw[hrun];simp only[aP,bH,aa];have hgo:((ji 4 fn #[.slice (some ⟨E.aG a,i,none⟩) n (ca.val (E.cap a)), .slice (some ⟨E.aG b,j,none⟩) m (cb.val (E.cap b))]).run P w)= .ok (aa E v) w:=by
            show(Extern.SlicesOverlaps.overlaps fn.params fn.resultTypes #[.slice (some ⟨E.aG a,i,none⟩) n (ca.val (E.cap a)), .slice (some ⟨E.aG b,j,none⟩) m (cb.val (E.cap b))]).run P w=_
            rw[yh];simp only[ht,Sem.run_bind,underlying,run_program,Result.andThen_ok,hPt,Sem.run_pure,fV ok hsz];by_cases hz:n=0\/m=0
            . rw[Ai (by rcases hz with h|h<;>simp[h])];have:(Nat.beq n 0||Nat.beq m 0)=true:=by
                rcases hz with rfl|rfl<;>simp
              rw[this]at hx4
              cases hx4;rfl
            . rw[Ae (by omega)];have h1:Nat.beq n 0=false:=by
                cases hb:Nat.beq n 0
                . rfl
                . exact absurd (.inl (Aa hb)) hz
              have h2:Nat.beq m 0=false:=by
                cases hb:Nat.beq m 0
                . rfl
                . exact absurd (.inr (Aa hb)) hz
              rw[h1,h2]at hx4
              cases hx4;have hfa:=pv H ha i;have hfb:=pv H hb' j;have hfrz:(Go.frozen ⟨E.aG a,i,none⟩).run P w= .ok false w:=by simp[Go.frozen,Sem.run,hfa]
              by_cases hab:a=b
              . subst hab;simp[aa];congr 1<;>(rw[A3];simp)
              . have hne:E.aG a≠E.aG b:=fun e=>hab (H.inj a b _ _ ha hb' (by simp[AO.ro]) e)
                have hb0:Nat.beq a b=false:=by
                  cases hb:Nat.beq a b
                  . rfl
                  . exact absurd (Aa hb) hab
                simp[aa,hne,hb0,hfrz,pb H ha,pb H hb',vl H ha hb']
           rw[hgo];rfl
         . cases hx4
       . cases hx4
     . cases hx2
   ·
     rename_i a c
     cases hx;refine⟨(0,0),fun E K H _=>⟨by omega,w,?_,H,Kept.refl K w⟩⟩;rw[hrun];have hgo:(ji 5 fn #[.string ⟨a.toArray⟩, .int .u8 c]).run P w= .ok (.int .i64 (tw ⟨a.toArray⟩ c.toNat.toUInt8)) w:=by
       show(Extern.BytealgIndexByte.indexByte #[.string ⟨a.toArray⟩, .int .u8 c]).run P w=_
       rw[IB];unfold tw;simp only[Extern.Bytes.bytesOf,Extern.Bytes.asByte,Sem.run_bind,Sem.run_pure,Result.andThen_ok];generalize List.find? (fun i=>(ByteArray.mk a.toArray)[i]! ==c.toNat.toUInt8) (List.range (ByteArray.mk a.toArray).size)=r
       cases r<;>rfl
     simp only[aP,bH,aa];rw[hgo];rfl
   . cases hx
 . cases hx
end
end
def T.bX {α:Type}:(Nat->Option α)->T α->T α
 |_, .e=> .e
 |f, .n v l r=> .n (match v with|none=>none|some _=>f 0) (T.bX (fun k=>f (2*k+1)) l) (T.bX (fun k=>f (2*k+2)) r)
def T.all {α:Type} (p:α->Bool):T α->Bool
 | .e=>true
 | .n v l r=>(match v with|none=>true|some a=>p a)&&T.all p l&&T.all p r
theorem fR {α:Type}:∀(t:T α) (f:Nat->Option α),T.bX f t=t->∀k v,t.get k=some v->f k=some v:=by
 intro t;induction t with
 |e=>intro f _ k v h;simp[fF]at h
 |n x l r ihl ihr=>
  intro f h k v hk;simp only[T.bX,T.n.injEq]at h;obtain⟨h1,h2,h3⟩:=h;rw[fT]at hk;split at hk
  . rename_i h0;subst h0;subst hk;exact h1
  . split at hk
    . have:=ihl _ h2 _ _ hk;rw[show 2*(k / 2)+1=k from by omega]at this;exact this
    . have:=ihr _ h3 _ _ hk;rw[show 2*(k / 2 - 1)+2=k from by omega]at this;exact this
theorem Kk {α:Type} {p:α->Bool}:∀(t:T α),T.all p t=true->∀k v,t.get k=some v->p v=true:=by
 intro t;induction t with
 |e=>intro _ k v h;simp[fF]at h
 |n x l r ihl ihr=>
  intro h k v hk;simp only[T.all,Ab]at h;obtain⟨⟨h1,h2⟩,h3⟩:=h;rw[fT]at hk;split at hk
  . subst hk;exact h1
  . split at hk
    . exact ihl h2 _ _ hk
    . exact ihr h3 _ _ hk
theorem aV.of {P:Program} {tab:aM} (h1:tab.und.bX P.underlying=tab.und) (h2:tab.siz.bX (fun t=>(P.info? t).map (·.size))=tab.siz) (h3:tab.byt.bX (fun t=>(P.info? t).map (·.bytes))=tab.byt)
   (h4:tab.gD.bX (fun t=>((P.info? t).bind (·.zero)).map ofConst)=tab.gD) (h5:tab.agg.bX (fun t=>(P.underlying t).map tH)=tab.agg) (h6:tab.held.bX (fun t=>some (P.stoodInHeld t))=tab.held)
   (h7:tab.gK.bX (fun t=>some (P.eqGuardType P.depth t))=tab.gK) (h8:tab.fns.bX (fun f=>P.funcs[f]?)=tab.fns) (h9:tab.fns.all (fun fn=> !(fn.name== "runtime.NumGoroutine"))=true):aV P tab:=by
 refine⟨fR _ _ h1,?_,?_,?_,?_,?_,?_,fR _ _ h8,?_⟩
 . intro t n h;have:=fR _ _ h2 t n h;simpa [Aq]using this
 . intro t n h;have:=fR _ _ h3 t n h;simpa [Aq]using this
 . intro t z h;have:=fR _ _ h4 t z h;simp only[Aq,DB]at this;obtain⟨v,⟨i,hi,hv⟩,rfl⟩:=this;exact⟨i,hi,fun E=>by rw[ve];exact hv⟩
 . intro t b h;have:=fR _ _ h5 t b h;simpa [Aq]using this
 . intro t b h;have:=fR _ _ h6 t b h;simpa using this
 . intro t b h;have:=fR _ _ h7 t b h;simpa using this
 . intro f fn h;have:=Kk _ h9 f fn h;simpa using this
theorem dS.of {P:Program} {tab:aM} (l:List (Nat×Nat)) (hl:∀f tag,tab.ext.get f=some tag->(f,tag)∈l) (hf:∀x∈l,∀fn,tab.fns.get x.1=some fn->Extern.findNext fn=none/\Extern.find fn=some (ji x.2 fn)):dS P tab:=
 fun f tag fn h1 h2=>hf (f,tag) (hl f tag h1) fn h2
def sR:R (List (AV×AH))->Bool
 | .ok l=>l.all fun x=>match x.1 with| .bool b=>b|_=>false
 | .no _=>false
theorem EK {r:R (List (AV×AH))} (h:sR r=true):∃outs,r= .ok outs/\ ∀v h',(v,h')∈outs->v= .bool true:=by
 cases r with
 |no w=>cases h
 |ok l=>
  refine⟨l,rfl,fun v h' hm=>?_⟩;have:=Av.1 h (v,h') hm;simp only at this;split at this
  . rw[this]
  . cases this
def db:AH:={t:= .e,next:=0}
theorem wI (E:Env) (K:KS) (w:World) (hK:∀b,K b->b<w.heap.size) (hk0:∀b,b<K.b->K b):aU E db K w:=by
 have h0:∀i,db.get i=none:=fun i=>rfl
 refine⟨fun i o h=>?_,fun i o h=>?_,fun i j oi oj h=>?_,fun i o h=>?_,hK,fun i o h=>?_,hk0⟩<;>(rw[h0]at h;cases h)
def mO:List (Nat×Nat)->T Nat
 |[]=> .e
 |(f,t)::l=>(mO l).set f (some t)
theorem Fp:∀(l:List (Nat×Nat)) (f tag:Nat),(mO l).get f=some tag->(f,tag)∈l:=by
 intro l;induction l with
 |nil=>intro f tag h;simp[mO,fF]at h
 |cons x l ih=>
  intro f tag h;obtain⟨a,b⟩:=x;simp only[mO,T.aI]at h;split at h
  . rename_i e;subst e
    cases h;exact Al
  . exact Ap _ (ih f tag h)
theorem uz {P:Program} {tab:aM} (l:List (Nat×Nat)) (hl:tab.ext=mO l) (hf:∀x∈l,∃fn,tab.fns.get x.1=some fn/\Extern.findNext fn=none/\Extern.find fn=some (ji x.2 fn)):dS P tab:=
 dS.of l (fun f tag h=>Fp l f tag (by rw[<-hl];exact h)) (fun x hx fn h=>by
  obtain⟨fn',h1,h2⟩:=hf x hx;rw[h1]at h
  cases h;exact h2)
section
variable [Inhabited aE]
def oC:AV->AV
 | .raw (.bool b)=> .bool b
 | .raw (.int k n)=> .int k n
 |v=>v
def qO:AV->AV
 | .bool b=> .raw (.bool b)
 | .int k n=> .raw (.int k n)
 |v=>v
def kF:AV->Bool
 | .raw _=>true
 |_=>false
theorem rP (E:Env) (v:AV):aa E (oC v)=aa E v:=by
 unfold oC;split<;>simp[aa]
theorem vw (E:Env) (v:AV):aa E (qO v)=aa E v:=by
 unfold qO;split<;>simp[aa]
section
variable (tab:aM)
def yw (t:TypeDesc) (x:AV):Option AV:=
 match t,x with
 | .slice _, .raw (.slice _ n _)=>some (.raw (.int .i64 (.ofNat n)))
 | .string, .raw (.string s)=>some (.raw (.int .i64 (.ofNat s.size)))
 |_,_=>none
def tS (ts:T AV) (h:AH) (o:Oper):Option AV:=
 match o.op with
 | .binOp op t x y _=>
  match ev ts x,ev ts y with
  | .ok a, .ok b=>bif kF a||kF b then(match binOp tab h op t (oC a) (oC b)with| .ok v=>some (qO v)| .no _=>none)else none
  |_,_=>none
 | .unOp op _ x=>
  match ev ts x with
  | .ok a=>bif kF a then(match unOp op (oC a)with| .ok v=>some (qO v)| .no _=>none)else none
  |_=>none
 | .call c=>
  match c.callee with
  | .builtin .len=>
   match c.args.toList with
   |[x]=>
    match ev ts x,c.argTypes[0]? with
    | .ok a,some t=>bif kF a then(match und tab t with| .ok d=>yw d a| .no _=>none)else none
    |_,_=>none
   |_=>none
  |_=>none
 |_=>none
def guardOf (ops:Array Oper) (o:Oper):Option Tmp:=
 match o.guard with
 |some (j,_)=>(ops[j]?).bind (·.dst)
 |none=>none
def yI (cJ:FuncId->List AV->AH->Option (List (AV×AH))) (ts:T AV) (h:AH) (o:Oper):Option (List (AV×AH)):=
 match o.op with
 | .call c=>
  match c.callee with
  | .value f=>
   match ev ts f with
   | .ok (.fn (.func g) first captured)=>
    match fm ts c.args.toList,tab.fns.get g with
    | .ok args,some fn=>
     match fn.body with
     |some _=>cJ g (first++args++captured) h
     |none=>none
    |_,_=>none
   |_=>none
  |_=>none
 |_=>none
def mF (ts:T AV) (t:Tmp):Bool:=
 match ts.get t with
 |some (.raw (.bool _))=>true
 |_=>false
def qf (m:AM) (t:Tmp):List AM:=
 [{m with fr:={m.fr with tmps:=m.fr.tmps.set t (some (.bool true))}},{m with fr:={m.fr with tmps:=m.fr.tmps.set t (some (.bool false))}}]
def eQ (cJ:FuncId->List AV->AH->Option (List (AV×AH))) (sub:FuncId->List AV->AH->R (List (AV×AH))) (m:AM) (o:Oper):R bZ:=
 match wanted' o m with
 | true=>
  match tS tab m.fr.tmps m.h o with
  |some v=>do .ok (.next {m with fr:= <-m.fr.finish v})
  | none=>
   match yI tab cJ m.fr.tmps m.h o with
   |some outs=>do
    let ms<-outs.mapM fun(v,h')=>do R.ok {fr:= <-m.fr.finish v,cs:=m.cs,h:=h':AM}
    .ok (.alts ms)
   |none=>step tab sub m
 |false=>step tab sub m
where
 wanted' (o:Oper) (m:AM):Bool:=
  match m.fr.todo with
  | .inRegion ops _::_=>match wanted ops o m.fr.tmps with| .ok b=>b| .no _=>false
  |_=>false
def qN (cJ:FuncId->List AV->AH->Option (List (AV×AH))) (sub:FuncId->List AV->AH->R (List (AV×AH))) (m:AM):R bZ:=
 match m.fr.mode with
 | .run=>
  match m.fr.todo with
  | .code (.cond (.tmp t) _ _)::_=>bif mF m.fr.tmps t then .ok (.alts (qf m t))else step tab sub m
  | .inRegion ops (i::_)::_=>
   match ops[i]? with
   |some o=>
    match guardOf ops o with
    |some t=>bif mF m.fr.tmps t then .ok (.alts (qf m t))else eQ tab cJ sub m o
    |none=>eQ tab cJ sub m o
   |none=>step tab sub m
  |_=>step tab sub m
 |_=>step tab sub m
end
mutual
def oA (tab:aM) (cJ:FuncId->List AV->AH->Option (List (AV×AH))):Nat->List AM->R (List (AV×AH))
 |0,_=> .no "fuel"
 |_+1,[]=> .ok []
 |n+1,m::l=>do
  let a<-gr tab cJ n m
  let b<-oA tab cJ n l
  .ok (a++b)
def gr (tab:aM) (cJ:FuncId->List AV->AH->Option (List (AV×AH))):Nat->AM->R (List (AV×AH))
 |0,_=> .no "fuel"
 | n+1,m=>
  match qN tab cJ (fun f args h=>match tab.fns.get f with
   |some fn=>match fn.body with
    |some body=>run tab n {fr:=ae.enter fn f body args .normal,cs:=[],h}
    |none=> .no "run: body"
   |none=> .no "run: function") m with
  | .no w=> .no w
  | .ok (.done v h)=> .ok [(v,h)]
  | .ok (.next m')=>gr tab cJ n m'
  | .ok (.alts l)=>oA tab cJ n l
end
def bq (P:Program) (tab:aM) (cJ:FuncId->List AV->AH->Option (List (AV×AH))) (I:World->Prop) (K:KS):Prop:=
 ∀f fn body args h outs,tab.fns.get f=some fn->fn.body=some body->cJ f args h=some outs->∀(D:Nat->Prop) (E:Env) (w:World) (argsC:Array Value),I w->
  (∀E',ag D E E'->aU E' h K w/\(aJ E' args).toArray=argsC)->(∀i,D i->i<h.next)->∀cs,∃v h',(v,h')∈outs/\Ends P h.next (lone (Frame.enter P f argsC .normal) cs w) D E K v h' cs f w
section
variable {P:Program} {tab:aM} (ok:aV P tab) {sub:FuncId->List AV->AH->R (List (AV×AH))} (hsub:fQ P tab sub) (hext:fW P tab) (hdraw:og P tab sub)
variable {cJ:FuncId->List AV->AH->Option (List (AV×AH))} {I:World->Prop}
variable {D:Nat->Prop} {E:Env} {K:KS} {base:List Frame} {frC:Frame} {csC:List Frame} {w:World}
theorem E2 {ts:T AV} {t:Tmp} {b:Bool} (h:ts.get t=some (.raw (.bool b))) (E:Env) (nt:Nat):dK E (ts.set t (some (.bool b))) nt=dK E ts nt:=by
 apply By
 intro j;rw[tmps_get?,tmps_get?,T.aI];by_cases hj:j=t
 . subst hj;simp[h,aa]
 . simp[hj]
theorem vA {m:AM} {t:Tmp} (hR:Rel D E K m base frC csC w) (hb:mF m.fr.tmps t=true):Out P m.h.next (lone frC csC w) D E K (bot m.fr m.cs) base w (.alts (qf m t)):=by
 unfold mF at hb;split at hb
 . rename_i b hg;have hwf:t<m.fr.nt:=by
     apply BJ;intro hn;have:=hR.wf.1 t (BX hn);rw[this]at hg
     cases hg
   refine⟨{m with fr:={m.fr with tmps:=m.fr.tmps.set t (some (.bool b))}},?_,eu (by rfl) _,?_⟩
   . unfold qf
     cases b<;>simp
   . refine⟨frC,csC,w,E,D,Steps.refl P _,⟨fun E' he=>?_,hR.cN,?_,hR.wf.2⟩,ag.refl _ _,fun i hi=>hi,Kept.refl K w,Aj _,fun i hi=> .inl hi⟩
     . obtain⟨h1,h2,h3⟩:=hR.all E' he;refine⟨h1,?_,h3⟩;rw[<-h2];simp only[aL,E2 hg]
     . intro j hj;have hj:m.fr.nt<=j:=hj;show(m.fr.tmps.set t (some (.bool b))).get j=none
       have hne:j≠t:=fun e=>absurd hj (by rw[e];exact Nat.not_le.2 hwf)
       rw[T.aI,Ae hne];exact hR.wf.1 j hj
 . cases hb
include ok in
theorem F5 {ts:T AV} {h:AH} {o:Oper} {v:AV} (hr:tS tab ts h o=some v) {E:Env} (H:aU E h K w) {ρ:Operand->Value} (hρ:∀x u,ev ts x= .ok u->ρ x=aa E u):
   (execOp ρ o).run P w= .ok (.value (aa E v)) w/\ ∀c,o.op≠ .defer c:=by
 unfold tS at hr;split at hr
 . rename_i op t x y yt hop;refine⟨?_,by rw[hop];intro c e;cases e⟩;split at hr
   . rename_i a b ha hb
     cases hc:(kF a||kF b)
     . rw[hc]at hr;cases hr
     . rw[hc]at hr;simp only[AY]at hr;split at hr
       . rename_i u hu
         cases hr;refine dY (s:=do eqGuard op t x y (ρ x) (ρ y);Go.binOp op t (ρ x) (ρ y)) (by simp[execOp,hop]) ?_;rw[hρ _ _ ha,hρ _ _ hb,<-rP E a,<-rP E b,vw];exact vZ ok H hu x y
       . cases hr
   . cases hr
 . rename_i op t x hop;refine⟨?_,by rw[hop];intro c e;cases e⟩;split at hr
   . rename_i a ha
     cases hc:kF a
     . rw[hc]at hr;cases hr
     . rw[hc]at hr;simp only[AY]at hr;split at hr
       . rename_i u hu
         cases hr;refine dY (s:=Op.unary op (ρ x)) (by simp[execOp,hop]) ?_;rw[hρ _ _ ha,<-rP E a,vw];exact xh hu
       . cases hr
   . cases hr
 . rename_i c hop;refine⟨?_,by rw[hop];intro c e;cases e⟩;split at hr
   . rename_i hcal;split at hr
     . rename_i x hargs;split at hr
       . rename_i a t ha ht
         cases hc:kF a
         . rw[hc]at hr;cases hr
         . rw[hc]at hr;simp only[AY]at hr;split at hr
           . rename_i d hd;have hP:=ok.und t d (bw.1 hd);have hx:c.args=#[x]:=by rw[<-Array.toList_inj];exact hargs
             unfold yw at hr;split at hr
             . cases hr;simp[execOp,hop,resolve,hcal,hx,invoke,Go.builtin,Builtin.len_,ht,underlying,hP,hρ _ _ ha,aa,Go.goInt]
             . cases hr;simp[execOp,hop,resolve,hcal,hx,invoke,Go.builtin,Builtin.len_,ht,underlying,hP,hρ _ _ ha,aa,Go.goInt]
             . cases hr
           . cases hr
       . cases hr
     . cases hr
   . cases hr
 . cases hr
include ok hsub hext hdraw in
theorem vn (hcon : bq P tab cJ I K) {m:AM} {out:bZ} {ops:Array Oper} {i:Nat} {rest:List Nat} {k:List aT} {o:Oper} (hI:I w) (hm:m.fr.mode= .run) (ht:m.fr.todo= .inRegion ops (i::rest)::k) (ho:ops[i]? =some o)
   (hs:eQ tab cJ sub m o= .ok out) (hR:Rel D E K m base frC csC w):Out P m.h.next (lone frC csC w) D E K (bot m.fr m.cs) base w out:=by
 have hold:=fun(h:step tab sub m= .ok out)=>nI ok hsub hext hdraw h hR
 unfold eQ at hs;split at hs
 . rename_i hw;unfold eQ.wanted' at hw;rw[ht]at hw;simp only at hw;have hw':wanted ops o m.fr.tmps= .ok true:=by
     split at hw
     . rename_i b hb;subst hw;exact hb
     . cases hw
   obtain⟨fr,cs,h⟩:=m;simp only at hs hm ht hw' hold⊢;have a:=gI hR hm ht ho hw';have hρ:∀E',ag D E E'->∀x u,ev fr.tmps x= .ok u->frC.eval x=aa E' u:=by
     intro E' he x u hx;rw[<-(hR.all E' he).2.1];exact jI hR.wf.1 E' hx
   split at hs
   . rename_i v hv;obtain⟨fr',hf,hs1⟩:=af.1 hs
     cases hs1;have hfc:=fU hf;refine⟨eu (hfc E).2.2 cs,?_⟩;refine hR.one (m':={fr:=fr',cs,h:=h}) _ (fun _=>(0,0)) (Aj _) ⟨(hfc E).2.1 hR.wf.1,hR.wf.2⟩ ?_;intro E' he H e1 e2 _;obtain⟨r1,r2⟩:=F5 ok hv H (hρ E' he);refine⟨w,?_,H,Kept.refl K w⟩;rw[a.value (.inr r2) csC r1 (.inl rfl),<-e1,<-e2,(hfc E').1]
   . split at hs
     . rename_i outs hc;obtain⟨ms,hms,hs2⟩:=af.1 hs
       cases hs2;unfold yI at hc;split at hc
       . rename_i c hop;split at hc
         . rename_i f hf;split at hc
           . rename_i g first captured hg;split at hc
             . rename_i args fn hargs hfn;split at hc
               . rename_i body hb;have hP:=ok.fns g fn hfn;have hn:fn.name≠ "runtime.NumGoroutine" :=by simpa using ok.nm g fn hfn
                 have hrun:∀a,(callFunc g a).run P w= .ok (.enter g a) w:=by
                   intro a;simp[callFunc,hP,hn,hb]
                 have hres:∀E',ag D E E'->Deferred.ofValue (frC.eval f) (c.args.map frC.eval)=pure (cw E' {target:= .fn (.func g) captured,args:=first++args}):=by
                   intro E' he;have hd:jG (.fn (.func g) first captured) args= .ok {target:= .fn (.func g) captured,args:=first++args}:=rfl;rw[<-k8 hd E',hρ E' he _ _ hg,<-ku (hρ E' he) _ _ hargs];congr 1
                   simp[<-Array.toList_inj]
                 have hrob:=mh hres;have hctx:=pC (csC:=csC) (w:=w) (P:=P) a (.inr (by rw[hop];intro c' e;cases e)) (dC:=cw E {target:= .fn (.func g) captured,args:=first++args})
                   (by simp[execOp,hop,resolve,hf,hres E (ag.refl _ _)])
                 have hinv:∀E',ag D E E'->invoke (cw E {target:= .fn (.func g) captured,args:=first++args}).target (cw E {target:= .fn (.func g) captured,args:=first++args}).args=callFunc g (aJ E' (first++args++captured)).toArray:=by
                   intro E' he;rw[<-hrob E' he];simp only[cw,ig,invoke,bG];simp
                 have hstep:∀E',ag D E E'->Go.step P (lone frC csC w)= .next (lone (Frame.enter P g (aJ E' (first++args++captured)).toArray .normal) (frC::csC) w):=fun E' he=>
                   hctx.enter _ _ _ (by rw[hinv E' he,hrun])
                 have hargsC:∀E',ag D E E'->(aJ E' (first++args++captured)).toArray=(aJ E (first++args++captured)).toArray:=by
                   intro E' he;have h3:=hinv E (ag.refl _ _);rw[hinv E' he]at h3;have h4:=hrun (aJ E' (first++args++captured)).toArray;rw[h3,hrun]at h4;simpa using h4.symm
                 obtain⟨v,h',hmem,he⟩:=hcon g fn body _ h outs hfn hb hc D E w _ hI (fun E' he=>⟨(hR.all E' he).1,hargsC E' he⟩) hR.cN (frC::csC);obtain⟨fr',w',v',E',D',s1,s2,s3,s4,s5,s6,s7,s8,s9,s10⟩:=he;obtain⟨y,hy,hg⟩:=mapM_mem hms _ hmem;obtain⟨fr1,hfin,hg1⟩:=af.1 hg
                 cases hg1;have hfc:=fU hfin;refine⟨_,hy,eu (hfc E).2.2 cs,frC.finish v',csC,w',E',D',?_,⟨?_,s7,?_⟩,s5,s6,s8,s9,s10⟩
                 . exact(Steps.head (hstep E (ag.refl _ _)) s1).trans (.one (step_leave_returned s3))
                 . intro E'' he';obtain⟨g1,g2⟩:=s4 E'' he';obtain⟨k1,k2,k3⟩:=hR.all E'' (s5.trans he' s6);refine⟨g1,?_,k3⟩;rw[<-(hfc E'').1,<-g2,<-k2]
                 . exact⟨(hfc E).2.1 hR.wf.1,hR.wf.2⟩
               . cases hc
             . cases hc
           . cases hc
         . cases hc
       . cases hc
     . exact hold hs
 . exact hold hs
include ok hsub hext hdraw in
theorem C3 (hcon:bq P tab cJ I K) {m:AM} {out:bZ} (hI:I w) (hs:qN tab cJ sub m= .ok out) (hR:Rel D E K m base frC csC w):
   Out P m.h.next (lone frC csC w) D E K (bot m.fr m.cs) base w out:=by
 have hold:=fun(h:step tab sub m= .ok out)=>nI ok hsub hext hdraw h hR
 unfold qN at hs;split at hs
 . rename_i hm;split at hs
   . cases hb:mF m.fr.tmps _
     . rw[hb]at hs;exact hold hs
     . rw[hb]at hs
       cases hs;exact vA hR hb
   . rename_i ops i rest k ht;split at hs
     . rename_i o ho;split at hs
       . cases hb:mF m.fr.tmps _
         . rw[hb]at hs;exact vn ok hsub hext hdraw hcon hI hm ht ho hs hR
         . rw[hb]at hs
           cases hs;exact vA hR hb
       . exact vn ok hsub hext hdraw hcon hI hm ht ho hs hR
     . exact hold hs
   . exact hold hs
 . exact hold hs
end
section
variable {P:Program} {tab:aM} (ok:aV P tab) (hext:fW P tab) (hdraw:∀sub,fQ P tab sub->og P tab sub)
variable {cJ:FuncId->List AV->AH->Option (List (AV×AH))} {I:World->Prop} {K:KS}
def yi (P:Program) (I:World->Prop) (K:KS) (m:AM) (outs:List (AV×AH)):Prop:=
 ∀(D:Nat->Prop) (E:Env) (base:List Frame) (frC:Frame) (csC:List Frame) (w:World),I w->Rel D E K m base frC csC w->
  ∃v h',(v,h')∈outs/\Ends P m.h.next (lone frC csC w) D E K v h' base (bot m.fr m.cs) w
include ok hext hdraw in
theorem JO (n:Nat):fQ P tab (fun f args h=>match tab.fns.get f with
   |some fn=>match fn.body with
    |some body=>run tab n {fr:=ae.enter fn f body args .normal,cs:=[],h}
    |none=> .no "run: body"
   |none=> .no "run: function"):=by
 intro f fn body args h outs hfn hb ho D E K w argsC hargs hdom cs;simp only[hfn,hb]at ho;have hP:=ok.fns f fn hfn;have hR:Rel D E K {fr:=ae.enter fn f body args .normal,cs:=[],h} cs (Frame.enter P f argsC .normal) cs w:=by
  refine⟨fun E' he=>?_,hdom,ln _ _ _ _ _,fun f hf=>by cases hf⟩;obtain⟨h1,h2⟩:=hargs E' he;refine⟨h1,?_,rfl⟩;rw[<-h2,iB hP hb]
 exact(wA ok hext hdraw n).1 _ _ ho D E K cs _ cs w hR
include ok hext hdraw in
theorem FB (hcon:bq P tab cJ I K) (hIK:∀w w',I w->Kept K w w'->I w'):∀n,(∀m outs,gr tab cJ n m= .ok outs->yi P I K m outs)/\
  (∀l outs,oA tab cJ n l= .ok outs->∀m∈l,∀outs',(∀x∈outs,x∈outs')->yi P I K m outs'):=by
 intro n;induction n with
 |zero=>
  refine⟨fun m outs h=>?_,fun l outs h=>?_⟩
  . simp only[gr]at h;cases h
  . cases l<;>(simp only[oA]at h;cases h)
 |succ n ih=>
  refine⟨fun m outs h=>?_,fun l outs h=>?_⟩
  . simp only[gr]at h;have hsub:=JO ok hext hdraw n;intro D E base frC csC w hI hR;generalize (fun f args h=>match tab.fns.get f with
     | some fn=>match fn.body with
       |some body=>run tab n {fr:=ae.enter fn f body args .normal,cs:=[],h}
       |none=>R.no "run: body"
     |none=>R.no "run: function" :FuncId->List AV->AH->R (List (AV×AH)))=sub at h hsub
    cases hs:qN tab cJ sub m with
    |no w=>rw[hs]at h;cases h
    |ok out=>
     rw[hs]at h;have ho:=C3 ok hsub hext (hdraw sub hsub) hcon hI hs hR
     cases out with
     | done v hh=>
       cases h;exact⟨v,hh,Al,ho⟩
     | next m'=>
       obtain⟨hb,fr',cs',w',E',D',s1,s2,s3,s4,s5,s6,s7⟩:=ho;obtain⟨v,h',hm,he⟩:=ih.1 m' outs h D' E' base fr' cs' w' (hIK _ _ hI s5) s2;rw[hb]at he;exact⟨v,h',hm,Ends.trans s1 s3 s4 s5 s6 s7 he⟩
     | alts l=>
       obtain⟨m',hml,hb,fr',cs',w',E',D',s1,s2,s3,s4,s5,s6,s7⟩:=ho;obtain⟨v,h',hm,he⟩:=ih.2 l outs h m' hml outs (fun _ hx=>hx) D' E' base fr' cs' w' (hIK _ _ hI s5) s2;rw[hb]at he;exact⟨v,h',hm,Ends.trans s1 s3 s4 s5 s6 s7 he⟩
  . intro m hm outs' hsub'
    cases l with
    |nil=>cases hm
    |cons x l=>
     simp only[oA]at h;obtain⟨a,ha,h1⟩:=af.1 h;obtain⟨b,hb,h2⟩:=af.1 h1
     cases h2;rcases An.1 hm with rfl|hm
     . intro D E base frC csC w hI hR;obtain⟨v,h',hx,he⟩:=ih.1 m a ha D E base frC csC w hI hR;exact⟨v,h',hsub' _ (Dl _ hx),he⟩
     . exact ih.2 l b hb m hm outs' (fun x hx=>hsub' x (BV _ hx))
end
theorem CL {P:Program} {tab:aM} (ok:aV P tab) (het:dS P tab) (hmix:P.follows .mixedOrders=true) {cJ:FuncId->List AV->AH->Option (List (AV×AH))} {w:World}
  (hcon:bq P tab cJ (Below w.heap.size w) (KS.old w.heap.size)) {n:Nat} {f:FuncId} {fn:Func} {body:Code} {args:List AV} {argsC:Array Value} (hfn:tab.fns.get f=some fn) (hb:fn.body=some body)
  (hr:sR (gr tab cJ n {fr:=ae.enter fn f body args .normal,cs:=[],h:=db})=true) (hargs:∀E,(aJ E args).toArray=argsC):
  Calls P f argsC w (fun e w'=>e= .returned (.bool true)/\Below w.heap.size w w'):=by
 obtain⟨outs,ho,ht⟩:=EK hr;have hext:=yb ok het;intro cs;have hP:=ok.fns f fn hfn;let E:Env:=⟨fun _=>0,fun _=>0⟩
 let D:Nat->Prop:=fun _=>False
 have hR:Rel D E (KS.old w.heap.size) {fr:=ae.enter fn f body args .normal,cs:=[],h:=db} cs (Frame.enter P f argsC .normal) cs w:=by
  refine⟨fun E' _=>⟨wI E' _ w (fun b h=>h) (fun b h=>h),?_,rfl⟩,fun i h=>h.elim,ln _ _ _ _ _,fun f hf=>by cases hf⟩;rw[<-hargs E',iB hP hb]
 obtain⟨v,h',hm,fr',w',v',E',D',s1,s2,s3,s4,s5,s6,s7,s8,s9,s10⟩:=(FB ok hext (fun sub hsub=>o9 ok hsub hext hmix) hcon
  (fun a b ha hk=>ha.trans ⟨hk.os,hk.tape,hk.output,hk.size,hk.block⟩) n).1 _ _ ho D E cs _ cs w (Below.refl _ _) hR
 obtain⟨_,g2⟩:=s4 E' (ag.refl _ _);have:=ht v h' hm;subst this;subst g2;exact⟨.returned (.bool true),w',fr',⟨rfl,s8.os,s8.tape,s8.output,s8.size,s8.block⟩,s1,s2,s3⟩
def yQ:FuncId->List AV->AH->Option (List (AV×AH)):=fun _ _ _=>none
theorem Hm {P:Program} {tab:aM} {I:World->Prop} {K:KS}:bq P tab yQ I K:=by
 intro f fn body args h outs _ _ hc
 cases hc
end
end Go.Am
namespace Go.Proofs
open Go.Am
open Tryz
def nd {α:Type} (x:α) (l r:T α):T α:= .n (some x) l r
def lf {α:Type} (x:α):T α:= .n (some x) .e .e
noncomputable def Jl:T TypeDesc:=(nd t0.desc (nd t1.desc (nd t3.desc (nd t7.desc (nd t15.desc (nd t31.desc (nd t63.desc (nd t127.desc (lf t255.desc) .e) (lf t190.desc)) (nd t95.desc (lf t159.desc) (lf t223.desc))) (nd t47.desc (nd t79.desc (nd t143.desc (lf t21.desc) .e) (lf t207.desc)) (nd t110.desc (lf t175.desc) (lf t239.desc)))) (nd t23.desc (nd t39.desc (nd t71.desc (nd t135.desc (lf t263.desc) .e) (lf t199.desc)) (nd t103.desc (lf t167.desc) (lf t231.desc))) (nd t55.desc (nd t87.desc (lf t151.desc) (lf t215.desc)) (nd t119.desc (lf t183.desc) (lf t247.desc))))) (nd t9.desc (nd t18.desc (nd t35.desc (nd t67.desc (nd t131.desc (lf t259.desc) .e) (lf t195.desc)) (nd t99.desc (lf t163.desc) (lf t227.desc))) (nd t50.desc (nd t83.desc (nd t147.desc (lf t76.desc) .e) (lf t211.desc)) (nd t115.desc (lf t3.desc) (lf t243.desc)))) (nd t27.desc (nd t43.desc (nd t74.desc (nd t139.desc (lf t5.desc) .e) (lf t203.desc)) (nd t107.desc (lf t171.desc) (lf t235.desc))) (nd t59.desc (nd t90.desc (lf t155.desc) (lf t219.desc)) (nd t123.desc (lf t187.desc) (lf t251.desc)))))) (nd t5.desc (nd t9.desc (nd t17.desc (nd t33.desc (nd t65.desc (nd t129.desc (lf t257.desc) .e) (lf t193.desc)) (nd t96.desc (lf t161.desc) (lf t225.desc))) (nd t48.desc (nd t81.desc (nd t145.desc (lf t273.desc) .e) (lf t209.desc)) (nd t112.desc (lf t177.desc) (lf t241.desc)))) (nd t25.desc (nd t41.desc (nd t73.desc (nd t137.desc (lf t264.desc) .e) (lf t201.desc)) (nd t105.desc (lf t169.desc) (lf t233.desc))) (nd t57.desc (nd t89.desc (lf t153.desc) (lf t188.desc)) (nd t121.desc (lf t185.desc) (lf t249.desc))))) (nd t13.desc (nd t21.desc (nd t37.desc (nd t69.desc (nd t133.desc (lf t261.desc) .e) (lf t197.desc)) (nd t101.desc (lf t165.desc) (lf t229.desc))) (nd t53.desc (nd t85.desc (lf t149.desc) (lf t213.desc)) (nd t117.desc (lf t181.desc) (lf t245.desc)))) (nd t29.desc (nd t45.desc (nd t76.desc (nd t141.desc (lf t269.desc) .e) (lf t205.desc)) (nd t109.desc (lf t173.desc) (lf t237.desc))) (nd t60.desc (nd t93.desc (lf t157.desc) (lf t221.desc)) (nd t125.desc (lf t189.desc) (lf t253.desc))))))) (nd t2.desc (nd t4.desc (nd t7.desc (nd t16.desc (nd t31.desc (nd t64.desc (nd t127.desc (lf t256.desc) .e) (lf t192.desc)) (nd t96.desc (lf t160.desc) (lf t224.desc))) (nd t48.desc (nd t79.desc (nd t144.desc (lf t21.desc) .e) (lf t208.desc)) (nd t112.desc (lf t176.desc) (lf t240.desc)))) (nd t24.desc (nd t40.desc (nd t72.desc (nd t136.desc (lf t264.desc) .e) (lf t200.desc)) (nd t104.desc (lf t168.desc) (lf t232.desc))) (nd t56.desc (nd t88.desc (lf t152.desc) (lf t216.desc)) (nd t120.desc (lf t184.desc) (lf t248.desc))))) (nd t12.desc (nd t20.desc (nd t36.desc (nd t68.desc (nd t132.desc (lf t260.desc) .e) (lf t195.desc)) (nd t99.desc (lf t164.desc) (lf t228.desc))) (nd t52.desc (nd t84.desc (nd t148.desc (lf t276.desc) .e) (lf t211.desc)) (nd t116.desc (lf t180.desc) (lf t244.desc)))) (nd t27.desc (nd t3.desc (nd t76.desc (nd t140.desc (lf t5.desc) .e) (lf t204.desc)) (nd t108.desc (lf t172.desc) (lf t236.desc))) (nd t60.desc (nd t92.desc (lf t156.desc) (lf t220.desc)) (nd t124.desc (lf t188.desc) (lf t252.desc)))))) (nd t5.desc (nd t9.desc (nd t18.desc (nd t34.desc (nd t66.desc (nd t130.desc (lf t258.desc) .e) (lf t194.desc)) (nd t98.desc (lf t162.desc) (lf t226.desc))) (nd t50.desc (nd t82.desc (nd t146.desc (lf t273.desc) .e) (lf t210.desc)) (nd t114.desc (lf t178.desc) (lf t242.desc)))) (nd t25.desc (nd t41.desc (nd t74.desc (nd t138.desc (lf t266.desc) .e) (lf t202.desc)) (nd t106.desc (lf t170.desc) (lf t234.desc))) (nd t58.desc (nd t90.desc (lf t154.desc) (lf t218.desc)) (nd t122.desc (lf t186.desc) (lf t250.desc))))) (nd t13.desc (nd t22.desc (nd t38.desc (nd t70.desc (nd t134.desc (lf t261.desc) .e) (lf t198.desc)) (nd t102.desc (lf t166.desc) (lf t230.desc))) (nd t54.desc (nd t85.desc (lf t150.desc) (lf t214.desc)) (nd t118.desc (lf t182.desc) (lf t246.desc)))) (nd t29.desc (nd t46.desc (nd t78.desc (nd t142.desc (lf t270.desc) .e) (lf t206.desc)) (nd t110.desc (lf t174.desc) (lf t238.desc))) (nd t62.desc (nd t94.desc (lf t158.desc) (lf t222.desc)) (nd t126.desc (lf t190.desc) (lf t254.desc))))))))
noncomputable def Jk:T Nat:=(nd 1 (nd 1 (nd 1 (nd 4 (nd 1 (nd 13 (nd 1 (nd 3 (lf 1) .e) (lf 256)) (nd 1 (lf 1) (lf 1))) (nd 1 (nd 1 (nd 1 (lf 1) .e) (lf 1)) (nd 3 (lf 1) (lf 1)))) (nd 1 (nd 1 (nd 1 (nd 1 (lf 0) .e) (lf 1)) (nd 1 (lf 1) (lf 1))) (nd 1 (nd 1 (lf 1) (lf 1)) (nd 1 (lf 1) (lf 1))))) (nd 1 (nd 1 (nd 1 (nd 1 (nd 1 (lf 1) .e) (lf 5)) (nd 26 (lf 1) (lf 1))) (nd 4 (nd 1 (nd 1 (lf 3) .e) (lf 1)) (nd 1 (lf 1) (lf 1)))) (nd 8 (nd 1 (nd 2 (nd 1 (lf 1) .e) (lf 1)) (nd 1 (lf 1) (lf 1))) (nd 1 (nd 2 (lf 1) (lf 1)) (nd 1 (lf 1) (lf 1)))))) (nd 1 (nd 1 (nd 1 (nd 1 (nd 1 (nd 1 (lf 1) .e) (lf 1)) (nd 10 (lf 1) (lf 1))) (nd 4 (nd 1 (nd 1 (lf 11) .e) (lf 1)) (nd 19 (lf 1) (lf 1)))) (nd 3 (nd 3 (nd 1 (nd 1 (lf 0) .e) (lf 1)) (nd 1 (lf 1) (lf 1))) (nd 1 (nd 1 (lf 1) (lf 1)) (nd 1 (lf 1) (lf 1))))) (nd 2 (nd 1 (nd 1 (nd 1 (nd 1 (lf 4) .e) (lf 1)) (nd 1 (lf 1) (lf 1))) (nd 1 (nd 1 (lf 1) (lf 1)) (nd 1 (lf 1) (lf 1)))) (nd 11 (nd 1 (nd 3 (nd 1 (lf 1) .e) (lf 1)) (nd 1 (lf 1) (lf 1))) (nd 4 (nd 1 (lf 1) (lf 1)) (nd 1 (lf 1) (lf 1))))))) (nd 1 (nd 1 (nd 4 (nd 1 (nd 13 (nd 1 (nd 3 (lf 1) .e) (lf 1)) (nd 10 (lf 1) (lf 1))) (nd 4 (nd 1 (nd 1 (lf 1) .e) (lf 1)) (nd 19 (lf 1) (lf 1)))) (nd 1 (nd 1 (nd 1 (nd 1 (lf 0) .e) (lf 1)) (nd 1 (lf 1) (lf 1))) (nd 1 (nd 1 (lf 1) (lf 1)) (nd 1 (lf 1) (lf 1))))) (nd 1 (nd 1 (nd 1 (nd 1 (nd 1 (lf 1) .e) (lf 5)) (nd 26 (lf 1) (lf 1))) (nd 1 (nd 1 (nd 1 (lf 1) .e) (lf 1)) (nd 1 (lf 1) (lf 1)))) (nd 8 (nd 1 (nd 3 (nd 1 (lf 1) .e) (lf 1)) (nd 1 (lf 1) (lf 1))) (nd 4 (nd 1 (lf 1) (lf 1)) (nd 1 (lf 1) (lf 1)))))) (nd 1 (nd 1 (nd 1 (nd 1 (nd 1 (nd 1 (lf 1) .e) (lf 1)) (nd 1 (lf 1) (lf 1))) (nd 4 (nd 1 (nd 1 (lf 11) .e) (lf 1)) (nd 1 (lf 1) (lf 1)))) (nd 3 (nd 3 (nd 2 (nd 1 (lf 1) .e) (lf 1)) (nd 1 (lf 1) (lf 1))) (nd 1 (nd 2 (lf 1) (lf 1)) (nd 1 (lf 1) (lf 1))))) (nd 2 (nd 1 (nd 1 (nd 1 (nd 1 (lf 4) .e) (lf 1)) (nd 1 (lf 1) (lf 1))) (nd 1 (nd 1 (lf 1) (lf 1)) (nd 1 (lf 1) (lf 1)))) (nd 11 (nd 1 (nd 1 (nd 1 (lf 1) .e) (lf 1)) (nd 3 (lf 1) (lf 12))) (nd 1 (nd 1 (lf 1) (lf 1)) (nd 1 (lf 256) (lf 1))))))))
noncomputable def Jg:T Nat:=(nd 0 (nd 8 (nd 8 (nd 24 (nd 8 (nd 128 (nd 0 (nd 24 (lf 8) .e) (lf 256)) (nd 8 (lf 8) (lf 8))) (nd 24 (nd 8 (nd 8 (lf 4) .e) (lf 8)) (nd 24 (lf 8) (lf 8)))) (nd 24 (nd 24 (nd 8 (nd 8 (lf 0) .e) (lf 8)) (nd 0 (lf 8) (lf 8))) (nd 8 (nd 8 (lf 8) (lf 8)) (nd 8 (lf 8) (lf 8))))) (nd 16 (nd 8 (nd 8 (nd 24 (nd 0 (lf 8) .e) (lf 40)) (nd 224 (lf 24) (lf 8))) (nd 40 (nd 8 (nd 8 (lf 24) .e) (lf 8)) (nd 8 (lf 8) (lf 8)))) (nd 48 (nd 8 (nd 16 (nd 8 (lf 1) .e) (lf 8)) (nd 8 (lf 8) (lf 8))) (nd 8 (nd 32 (lf 8) (lf 8)) (nd 8 (lf 8) (lf 8)))))) (nd 1 (nd 16 (nd 8 (nd 8 (nd 8 (nd 0 (lf 0) .e) (lf 8)) (nd 64 (lf 0) (lf 8))) (nd 48 (nd 8 (nd 8 (lf 48) .e) (lf 8)) (nd 176 (lf 8) (lf 8)))) (nd 48 (nd 72 (nd 8 (nd 0 (lf 0) .e) (lf 8)) (nd 0 (lf 8) (lf 8))) (nd 8 (nd 8 (lf 8) (lf 8)) (nd 8 (lf 8) (lf 8))))) (nd 24 (nd 4 (nd 8 (nd 8 (nd 8 (lf 40) .e) (lf 8)) (nd 8 (lf 0) (lf 8))) (nd 8 (nd 8 (lf 8) (lf 8)) (nd 8 (lf 8) (lf 8)))) (nd 96 (nd 0 (nd 24 (nd 8 (lf 8) .e) (lf 8)) (nd 8 (lf 8) (lf 8))) (nd 32 (nd 0 (lf 24) (lf 8)) (nd 8 (lf 8) (lf 8))))))) (nd 8 (nd 1 (nd 24 (nd 8 (nd 128 (nd 8 (nd 24 (lf 8) .e) (lf 0)) (nd 64 (lf 8) (lf 8))) (nd 48 (nd 8 (nd 0 (lf 4) .e) (lf 8)) (nd 176 (lf 8) (lf 8)))) (nd 8 (nd 24 (nd 8 (nd 8 (lf 0) .e) (lf 8)) (nd 8 (lf 8) (lf 8))) (nd 8 (nd 8 (lf 8) (lf 8)) (nd 8 (lf 8) (lf 8))))) (nd 8 (nd 16 (nd 8 (nd 8 (nd 8 (lf 8) .e) (lf 40)) (nd 224 (lf 8) (lf 0))) (nd 8 (nd 8 (nd 8 (lf 8) .e) (lf 8)) (nd 8 (lf 0) (lf 8)))) (nd 48 (nd 8 (nd 24 (nd 8 (lf 1) .e) (lf 8)) (nd 8 (lf 8) (lf 0))) (nd 32 (nd 24 (lf 8) (lf 8)) (nd 8 (lf 8) (lf 8)))))) (nd 1 (nd 16 (nd 8 (nd 8 (nd 8 (nd 8 (lf 8) .e) (lf 8)) (nd 8 (lf 8) (lf 0))) (nd 40 (nd 8 (nd 24 (lf 48) .e) (lf 8)) (nd 8 (lf 8) (lf 8)))) (nd 48 (nd 72 (nd 16 (nd 8 (lf 8) .e) (lf 8)) (nd 8 (lf 8) (lf 8))) (nd 8 (nd 32 (lf 8) (lf 8)) (nd 8 (lf 4) (lf 8))))) (nd 24 (nd 24 (nd 8 (nd 8 (nd 8 (lf 40) .e) (lf 8)) (nd 8 (lf 8) (lf 8))) (nd 8 (nd 8 (lf 8) (lf 8)) (nd 0 (lf 8) (lf 8)))) (nd 96 (nd 8 (nd 8 (nd 8 (lf 8) .e) (lf 8)) (nd 24 (lf 8) (lf 192))) (nd 8 (nd 8 (lf 8) (lf 8)) (nd 8 (lf 256) (lf 8))))))))
noncomputable def Ka:T AV:=(nd (.aO []) (nd (.ah) (nd (.int .i64 0) (nd (.agg [.int .i64 0, .int .i64 0, .bool false, .int .u8 0]) (nd (.aA) (nd (.agg [.int .i64 0, .str [], .str [], .str [], .str [], .bool false, .bool false, .bool false, .bool false, .int .i64 0, .int .i64 0, .int .i64 0, .nils]) (.n none (nd (.agg [.str [], .bool false, .bool false]) (lf (.ah)) .e) .e) (nd (.aA) (lf (.ah)) (lf (.ah)))) (nd (.nils) (nd (.ah) (nd (.ah) (lf (.int .i32 0)) .e) (lf (.ah))) (nd (.agg [.int .i64 0, .int .i64 0, .int .i64 0]) (lf (.ah)) (lf (.ah))))) (nd (.nils) (nd (.nils) (nd (.ah) (nd (.ah) (lf (.agg [])) .e) (lf (.ah))) (nd (.aO [.int .i64 0, .bool false]) (lf (.ah)) (lf (.ah)))) (nd (.aQ) (nd (.ah) (lf (.ah)) (lf (.ah))) (nd (.ah) (lf (.ah)) (lf (.ah)))))) (nd (.str []) (nd (.agg [.aA]) (nd (.ah) (nd (.nils) (nd (.aO [.str [], .int .i64 0]) (lf (.ah)) .e) (lf (.agg [.int .i64 0, .int .i64 0, .int .i64 0, .int .i64 0, .bool false]))) (nd (.agg [.nils, .str [], .str [], .bool false, .bool false, .bool false, .bool false, .bool false, .bool false, .int .i64 0, .int .i64 0, .str [], .str [], .bool false, .bool false, .str [], .str [], .str [], .str [], .bool false, .bool false, .bool false, .bool false, .int .i64 0, .int .i64 0, .int .i64 0]) (lf (.nils)) (lf (.ah)))) (nd (.agg [.str [], .str [], .bool false, .bool false]) (nd (.ah) (nd (.ah) (lf (.agg [.int .i64 0, .int .i64 0, .int .i64 0])) .e) (lf (.ah))) (nd (.ah) (lf (.int .i64 0)) (lf (.ah))))) (nd (.agg [.str [], .bool false, .bool false, .bool false, .bool false, .int .i64 0, .int .i64 0, .int .i64 0]) (nd (.ah) (nd (.agg [.int .i64 0, .int .i64 0]) (nd (.aA) (lf (.int .u8 0)) .e) (lf (.ah))) (nd (.ah) (lf (.ah)) (lf (.aA)))) (nd (.ah) (nd (.agg [.str [], .str []]) (lf (.ah)) (lf (.ah))) (nd (.ah) (lf (.ah)) (lf (.ah))))))) (nd (.int .u8 0) (nd (.str []) (nd (.aA) (nd (.ah) (nd (.ah) (.n none (lf (.aO [.int .u32 0, .int .u32 0])) .e) (lf (.ah))) (nd (.agg [.bool false, .bool false, .bool false, .bool false, .int .i64 0, .int .i64 0, .str [], .str [], .bool false, .bool false]) (lf (.aO [.str [], .str [], .bool false])) (lf (.aA)))) (nd (.agg [.int .i64 0, .int .i64 0, .int .i64 0, .nils]) (nd (.ah) (nd (.ah) (lf (.agg [.int .u64 0, .int .u64 0, .int .u32 0, .int .u8 0, .int .u8 0, .int .u8 0, .int .u8 0, .ah, .aA, .int .i32 0, .int .i32 0])) .e) (lf (.aQ))) (nd (.agg [.int .i64 0, .int .i64 0, .int .i64 0, .int .i64 0, .int .i64 0, .int .i64 0, .int .i64 0, .str [], .str [], .str [], .str [], .bool false, .bool false, .bool false, .bool false, .int .i64 0, .int .i64 0, .int .i64 0, .nils]) (lf (.ah)) (lf (.ah))))) (nd (.agg [.str [], .str [], .str []]) (nd (.agg [.nils, .nils, .nils]) (nd (.ah) (.n none (lf (.agg [])) .e) (lf (.ah))) (.n none (lf (.ah)) (lf (.ah)))) (nd (.aQ) (nd (.ah) (lf (.ah)) (lf (.int .u64 0))) (nd (.ah) (lf (.ah)) (lf (.ah)))))) (nd (.agg [.str [], .int .u64 0]) (nd (.int .i32 0) (nd (.ah) (nd (.ah) (nd (.ah) (lf (.agg [.aA, .aA, .aA, .str []])) .e) (lf (.ah))) (nd (.ah) (lf (.aO [.int .i64 0, .int .i64 0])) (lf (.ah)))) (nd (.ah) (nd (.agg [.aQ]) (lf (.ah)) (lf (.ah))) (nd (.ah) (lf (.ah)) (lf (.ah))))) (nd (.agg [.str [], .str [], .str [], .str [], .bool false, .bool false, .bool false, .bool false, .int .i64 0, .int .i64 0, .int .i64 0]) (nd (.aO [.nils, .int .i64 0]) (nd (.agg [.int .i64 0, .int .i64 0, .int .i64 0]) (nd (.ah) (lf (.ah)) .e) (lf (.ah))) (nd (.ah) (lf (.ah)) (lf (.ah)))) (nd (.agg [.aQ, .aQ, .aQ, .aA]) (.n none (lf (.nils)) (lf (.aA))) (nd (.ah) (lf (.ah)) (lf (.ah)))))))) (nd (.int .i64 0) (nd (.bool false) (nd (.agg [.int .i64 0, .int .i64 0, .bool false, .int .u8 0]) (nd (.aA) (nd (.agg [.int .i64 0, .str [], .str [], .str [], .str [], .bool false, .bool false, .bool false, .bool false, .int .i64 0, .int .i64 0, .int .i64 0, .nils]) (nd (.ah) (nd (.agg [.str [], .bool false, .bool false]) (lf (.ah)) .e) .e) (nd (.agg [.bool false, .bool false, .bool false, .bool false, .int .i64 0, .int .i64 0, .str [], .str [], .bool false, .bool false]) (lf (.ah)) (lf (.ah)))) (nd (.agg [.int .i64 0, .int .i64 0, .int .i64 0, .nils]) (nd (.ah) (.n none (lf (.int .i32 0)) .e) (lf (.ah))) (nd (.agg [.int .i64 0, .int .i64 0, .int .i64 0, .int .i64 0, .int .i64 0, .int .i64 0, .int .i64 0, .str [], .str [], .str [], .str [], .bool false, .bool false, .bool false, .bool false, .int .i64 0, .int .i64 0, .int .i64 0, .nils]) (lf (.ah)) (lf (.ah))))) (nd (.ah) (nd (.nils) (nd (.ah) (nd (.ah) (lf (.agg [])) .e) (lf (.ah))) (nd (.ah) (lf (.ah)) (lf (.ah)))) (nd (.aQ) (nd (.ah) (lf (.ah)) (lf (.ah))) (nd (.ah) (lf (.ah)) (lf (.ah)))))) (nd (.int .u64 0) (nd (.dV) (nd (.aA) (nd (.ah) (nd (.ah) (lf (.ah)) .e) (lf (.agg [.int .i64 0, .int .i64 0, .int .i64 0, .int .i64 0, .bool false]))) (nd (.agg [.nils, .str [], .str [], .bool false, .bool false, .bool false, .bool false, .bool false, .bool false, .int .i64 0, .int .i64 0, .str [], .str [], .bool false, .bool false, .str [], .str [], .str [], .str [], .bool false, .bool false, .bool false, .bool false, .int .i64 0, .int .i64 0, .int .i64 0]) (lf (.ah)) (lf (.aO [.int .i64 0, .str [], .bool false])))) (nd (.ah) (nd (.aQ) (nd (.ah) (lf (.aA)) .e) (lf (.ah))) (nd (.ah) (lf (.aO [.int .i64 0, .int .i64 0])) (lf (.ah))))) (nd (.agg [.str [], .bool false, .bool false, .bool false, .bool false, .int .i64 0, .int .i64 0, .int .i64 0]) (nd (.int .i64 0) (nd (.agg [.int .i64 0, .int .i64 0, .int .i64 0]) (nd (.ah) (lf (.int .u8 0)) .e) (lf (.ah))) (nd (.ah) (lf (.ah)) (lf (.aO [.int .i64 0, .int .i64 0])))) (nd (.agg [.aQ, .aQ, .aQ, .aA]) (nd (.nils) (lf (.int .u64 0)) (lf (.ah))) (nd (.ah) (lf (.int .u64 0)) (lf (.ah))))))) (nd (.int .u8 0) (nd (.str []) (nd (.agg [.aA]) (nd (.ah) (nd (.ah) (nd (.ah) (lf (.ah)) .e) (lf (.aA))) (nd (.ah) (lf (.ah)) (lf (.aO [.int .i64 0, .bool false, .bool false])))) (nd (.agg [.str [], .str [], .bool false, .bool false]) (nd (.ah) (nd (.nils) (lf (.agg [.int .u64 0, .int .u64 0, .int .u32 0, .int .u8 0, .int .u8 0, .int .u8 0, .int .u8 0, .ah, .aA, .int .i32 0, .int .i32 0])) .e) (lf (.ah))) (nd (.ah) (lf (.ah)) (lf (.ah))))) (nd (.agg [.str [], .str [], .str []]) (nd (.agg [.nils, .nils, .nils]) (nd (.agg [.int .i64 0, .int .i64 0]) (nd (.ah) (lf (.ah)) .e) (lf (.ah))) (nd (.ah) (lf (.ah)) (lf (.ah)))) (nd (.aA) (nd (.agg [.str [], .str []]) (lf (.ah)) (lf (.ah))) (nd (.ah) (lf (.int .u32 0)) (lf (.ah)))))) (nd (.agg [.str [], .int .u64 0]) (nd (.nils) (nd (.ah) (nd (.ah) (nd (.ah) (lf (.agg [.aA, .aA, .aA, .str []])) .e) (lf (.ah))) (nd (.aA) (lf (.ah)) (lf (.ah)))) (nd (.ah) (nd (.agg [.aQ]) (lf (.ah)) (lf (.ah))) (nd (.aO [.nils, .int .i64 0]) (lf (.ah)) (lf (.ah))))) (nd (.agg [.str [], .str [], .str [], .str [], .bool false, .bool false, .bool false, .bool false, .int .i64 0, .int .i64 0, .int .i64 0]) (nd (.ah) (nd (.ah) (nd (.ah) (lf (.aA)) .e) (lf (.ah))) (nd (.agg [.int .i64 0, .int .i64 0, .int .i64 0]) (lf (.ah)) (lf (.agg [.str [], .str [], .str [], .str [], .str [], .str [], .str [], .str [], .str [], .str [], .str [], .str []])))) (nd (.ah) (nd (.ah) (lf (.ah)) (lf (.ah))) (nd (.ah) .e (lf (.ah)))))))))
noncomputable def Jf:T Bool:=(nd false (nd false (nd false (nd true (nd false (nd true (nd false (nd true (lf false) .e) (lf true)) (nd false (lf false) (lf false))) (nd false (nd false (nd false (lf false) .e) (lf false)) (nd true (lf false) (lf false)))) (nd false (nd false (nd false (nd false (lf true) .e) (lf false)) (nd false (lf false) (lf false))) (nd false (nd false (lf false) (lf false)) (nd false (lf false) (lf false))))) (nd false (nd true (nd false (nd false (nd false (lf false) .e) (lf true)) (nd true (lf false) (lf false))) (nd true (nd false (nd false (lf true) .e) (lf false)) (nd false (lf false) (lf false)))) (nd true (nd false (nd true (nd false (lf false) .e) (lf false)) (nd false (lf false) (lf false))) (nd false (nd true (lf false) (lf false)) (nd false (lf false) (lf false)))))) (nd false (nd false (nd false (nd false (nd false (nd false (lf false) .e) (lf false)) (nd true (lf false) (lf false))) (nd true (nd false (nd false (lf true) .e) (lf false)) (nd true (lf false) (lf false)))) (nd true (nd true (nd false (nd false (lf true) .e) (lf false)) (nd false (lf false) (lf false))) (nd false (nd false (lf false) (lf false)) (nd false (lf false) (lf false))))) (nd true (nd false (nd false (nd false (nd false (lf true) .e) (lf false)) (nd false (lf false) (lf false))) (nd false (nd true (lf false) (lf false)) (nd false (lf false) (lf false)))) (nd true (nd false (nd true (nd false (lf false) .e) (lf false)) (nd false (lf false) (lf false))) (nd true (nd false (lf false) (lf false)) (nd false (lf false) (lf false))))))) (nd false (nd false (nd true (nd false (nd true (nd false (nd true (lf false) .e) (lf false)) (nd true (lf false) (lf false))) (nd true (nd false (nd false (lf false) .e) (lf false)) (nd true (lf false) (lf false)))) (nd false (nd false (nd false (nd false (lf true) .e) (lf false)) (nd false (lf false) (lf false))) (nd false (nd false (lf false) (lf false)) (nd false (lf false) (lf false))))) (nd false (nd false (nd false (nd false (nd false (lf false) .e) (lf true)) (nd true (lf false) (lf false))) (nd false (nd false (nd false (lf false) .e) (lf false)) (nd false (lf false) (lf false)))) (nd true (nd false (nd true (nd false (lf false) .e) (lf false)) (nd false (lf false) (lf false))) (nd true (nd false (lf false) (lf false)) (nd false (lf false) (lf false)))))) (nd false (nd false (nd true (nd false (nd false (nd false (lf false) .e) (lf false)) (nd false (lf false) (lf false))) (nd true (nd false (nd false (lf true) .e) (lf false)) (nd false (lf false) (lf false)))) (nd true (nd true (nd true (nd false (lf false) .e) (lf false)) (nd false (lf false) (lf false))) (nd false (nd true (lf false) (lf false)) (nd false (lf false) (lf false))))) (nd true (nd false (nd false (nd false (nd false (lf true) .e) (lf false)) (nd false (lf false) (lf false))) (nd false (nd true (lf false) (lf false)) (nd false (lf false) (lf false)))) (nd true (nd false (nd false (nd false (lf false) .e) (lf false)) (nd true (lf false) (lf true))) (nd false (nd false (lf false) (lf false)) (nd false (lf true) (lf false))))))))
noncomputable def JE:T Bool:=(nd false (nd false (nd false (nd false (nd false (nd false (nd false (nd false (lf false) .e) (lf false)) (nd false (lf false) (lf false))) (nd false (nd false (nd false (lf false) .e) (lf false)) (nd false (lf false) (lf false)))) (nd false (nd false (nd false (nd false (lf false) .e) (lf false)) (nd false (lf false) (lf false))) (nd false (nd false (lf false) (lf false)) (nd false (lf false) (lf false))))) (nd false (nd true (nd false (nd false (nd false (lf false) .e) (lf false)) (nd false (lf false) (lf false))) (nd false (nd false (nd false (lf false) .e) (lf false)) (nd false (lf false) (lf false)))) (nd false (nd false (nd false (nd false (lf false) .e) (lf false)) (nd false (lf false) (lf false))) (nd false (nd false (lf false) (lf false)) (nd false (lf false) (lf false)))))) (nd false (nd false (nd false (nd false (nd false (nd false (lf false) .e) (lf false)) (nd false (lf false) (lf false))) (nd false (nd false (nd false (lf true) .e) (lf false)) (nd false (lf false) (lf false)))) (nd false (nd false (nd false (nd false (lf true) .e) (lf false)) (nd false (lf false) (lf false))) (nd false (nd false (lf false) (lf false)) (nd false (lf false) (lf false))))) (nd true (nd false (nd false (nd false (nd false (lf true) .e) (lf false)) (nd false (lf false) (lf false))) (nd false (nd false (lf false) (lf false)) (nd false (lf false) (lf false)))) (nd false (nd false (nd false (nd false (lf false) .e) (lf false)) (nd false (lf false) (lf false))) (nd false (nd false (lf false) (lf false)) (nd false (lf false) (lf false))))))) (nd false (nd false (nd false (nd false (nd false (nd false (nd false (lf false) .e) (lf false)) (nd false (lf false) (lf false))) (nd false (nd false (nd false (lf false) .e) (lf false)) (nd false (lf false) (lf false)))) (nd false (nd false (nd false (nd false (lf true) .e) (lf false)) (nd false (lf false) (lf false))) (nd false (nd false (lf false) (lf false)) (nd false (lf false) (lf false))))) (nd false (nd false (nd false (nd false (nd false (lf false) .e) (lf false)) (nd false (lf false) (lf false))) (nd false (nd false (nd false (lf false) .e) (lf false)) (nd false (lf false) (lf false)))) (nd false (nd false (nd false (nd false (lf false) .e) (lf false)) (nd false (lf false) (lf false))) (nd false (nd false (lf false) (lf false)) (nd false (lf false) (lf false)))))) (nd false (nd false (nd true (nd false (nd false (nd false (lf false) .e) (lf false)) (nd false (lf false) (lf false))) (nd false (nd false (nd false (lf true) .e) (lf false)) (nd false (lf false) (lf false)))) (nd false (nd false (nd false (nd false (lf false) .e) (lf false)) (nd false (lf false) (lf false))) (nd false (nd false (lf false) (lf false)) (nd false (lf false) (lf false))))) (nd true (nd false (nd false (nd false (nd false (lf true) .e) (lf false)) (nd false (lf false) (lf false))) (nd false (nd false (lf false) (lf false)) (nd false (lf false) (lf false)))) (nd false (nd false (nd false (nd false (lf false) .e) (lf false)) (nd false (lf false) (lf false))) (nd false (nd false (lf false) (lf false)) (nd false (lf false) (lf false))))))))
noncomputable def Jj:T Bool:=(nd false (nd false (nd false (nd false (nd false (nd false (nd false (nd false (lf false) .e) (lf false)) (nd false (lf false) (lf false))) (nd false (nd false (nd false (lf false) .e) (lf false)) (nd false (lf false) (lf false)))) (nd false (nd false (nd false (nd false (lf false) .e) (lf false)) (nd false (lf false) (lf false))) (nd false (nd false (lf false) (lf false)) (nd false (lf false) (lf false))))) (nd false (nd false (nd false (nd false (nd false (lf false) .e) (lf false)) (nd false (lf false) (lf false))) (nd false (nd false (nd false (lf false) .e) (lf false)) (nd false (lf false) (lf false)))) (nd false (nd false (nd false (nd false (lf false) .e) (lf false)) (nd false (lf false) (lf false))) (nd false (nd false (lf false) (lf false)) (nd false (lf false) (lf false)))))) (nd false (nd false (nd false (nd false (nd false (nd false (lf false) .e) (lf false)) (nd false (lf false) (lf false))) (nd false (nd false (nd false (lf false) .e) (lf false)) (nd false (lf false) (lf false)))) (nd false (nd false (nd false (nd false (lf false) .e) (lf false)) (nd false (lf false) (lf false))) (nd false (nd false (lf false) (lf false)) (nd false (lf false) (lf false))))) (nd false (nd false (nd false (nd false (nd false (lf false) .e) (lf false)) (nd false (lf false) (lf false))) (nd false (nd false (lf false) (lf false)) (nd false (lf false) (lf false)))) (nd false (nd false (nd false (nd false (lf false) .e) (lf false)) (nd false (lf false) (lf false))) (nd false (nd false (lf false) (lf false)) (nd false (lf false) (lf false))))))) (nd false (nd false (nd false (nd false (nd false (nd false (nd false (lf false) .e) (lf false)) (nd false (lf false) (lf false))) (nd false (nd false (nd false (lf false) .e) (lf false)) (nd false (lf false) (lf false)))) (nd false (nd false (nd false (nd false (lf false) .e) (lf false)) (nd false (lf false) (lf false))) (nd false (nd false (lf false) (lf false)) (nd false (lf false) (lf false))))) (nd false (nd false (nd false (nd false (nd false (lf false) .e) (lf false)) (nd false (lf false) (lf false))) (nd false (nd false (nd false (lf false) .e) (lf false)) (nd false (lf false) (lf false)))) (nd false (nd false (nd false (nd false (lf false) .e) (lf false)) (nd false (lf false) (lf false))) (nd false (nd false (lf false) (lf false)) (nd false (lf false) (lf false)))))) (nd false (nd false (nd false (nd false (nd false (nd false (lf false) .e) (lf false)) (nd false (lf false) (lf false))) (nd false (nd false (nd false (lf false) .e) (lf false)) (nd false (lf false) (lf false)))) (nd false (nd false (nd false (nd false (lf false) .e) (lf false)) (nd false (lf false) (lf false))) (nd false (nd false (lf false) (lf false)) (nd false (lf false) (lf false))))) (nd false (nd false (nd false (nd false (nd false (lf false) .e) (lf false)) (nd false (lf false) (lf false))) (nd false (nd false (lf false) (lf false)) (nd false (lf false) (lf false)))) (nd false (nd false (nd false (nd false (lf false) .e) (lf false)) (nd false (lf false) (lf false))) (nd false (nd false (lf false) (lf false)) (nd false (lf false) (lf false))))))))
noncomputable def Ji:T Func:=(nd f0 (nd f1 (nd f3 (nd f7 (nd f15 (nd f31 (nd f63 (lf f127) (lf f191)) (nd f95 (lf f159) (lf f223))) (nd f47 (nd f79 (lf f143) (lf f207)) (nd f111 (lf f175) (lf f239)))) (nd f23 (nd f39 (nd f71 (lf f135) (lf f199)) (nd f103 (lf f167) (lf f231))) (nd f55 (nd f87 (lf f151) (lf f215)) (nd f119 (lf f183) (lf f247))))) (nd f11 (nd f19 (nd f35 (nd f67 (lf f131) (lf f195)) (nd f99 (lf f163) (lf f227))) (nd f51 (nd f83 (lf f147) (lf f211)) (nd f115 (lf f179) (lf f243)))) (nd f27 (nd f43 (nd f75 (lf f139) (lf f203)) (nd f107 (lf f171) (lf f235))) (nd f59 (nd f91 (lf f155) (lf f219)) (nd f123 (lf f187) (lf f251)))))) (nd f5 (nd f9 (nd f17 (nd f33 (nd f65 (lf f129) (lf f193)) (nd f97 (lf f161) (lf f225))) (nd f49 (nd f81 (lf f145) (lf f209)) (nd f113 (lf f177) (lf f241)))) (nd f25 (nd f41 (nd f73 (lf f137) (lf f201)) (nd f105 (lf f169) (lf f233))) (nd f57 (nd f89 (lf f153) (lf f217)) (nd f121 (lf f185) (lf f249))))) (nd f13 (nd f21 (nd f37 (nd f69 (lf f133) (lf f197)) (nd f101 (lf f165) (lf f229))) (nd f53 (nd f85 (lf f149) (lf f213)) (nd f117 (lf f181) (lf f245)))) (nd f29 (nd f45 (nd f77 (lf f141) (lf f205)) (nd f109 (lf f173) (lf f237))) (nd f61 (nd f93 (lf f157) (lf f221)) (nd f125 (lf f189) .e)))))) (nd f2 (nd f4 (nd f8 (nd f16 (nd f32 (nd f64 (lf f128) (lf f192)) (nd f96 (lf f160) (lf f224))) (nd f48 (nd f80 (lf f144) (lf f208)) (nd f112 (lf f176) (lf f240)))) (nd f24 (nd f40 (nd f72 (lf f136) (lf f200)) (nd f104 (lf f168) (lf f232))) (nd f56 (nd f88 (lf f152) (lf f216)) (nd f120 (lf f184) (lf f248))))) (nd f12 (nd f20 (nd f36 (nd f68 (lf f132) (lf f196)) (nd f100 (lf f164) (lf f228))) (nd f52 (nd f84 (lf f148) (lf f212)) (nd f116 (lf f180) (lf f244)))) (nd f28 (nd f44 (nd f76 (lf f140) (lf f204)) (nd f108 (lf f172) (lf f236))) (nd f60 (nd f92 (lf f156) (lf f220)) (nd f124 (lf f188) .e))))) (nd f6 (nd f10 (nd f18 (nd f34 (nd f66 (lf f130) (lf f194)) (nd f98 (lf f162) (lf f226))) (nd f50 (nd f82 (lf f146) (lf f210)) (nd f114 (lf f178) (lf f242)))) (nd f26 (nd f42 (nd f74 (lf f138) (lf f202)) (nd f106 (lf f170) (lf f234))) (nd f58 (nd f90 (lf f154) (lf f218)) (nd f122 (lf f186) (lf f250))))) (nd f14 (nd f22 (nd f38 (nd f70 (lf f134) (lf f198)) (nd f102 (lf f166) (lf f230))) (nd f54 (nd f86 (lf f150) (lf f214)) (nd f118 (lf f182) (lf f246)))) (nd f30 (nd f46 (nd f78 (lf f142) (lf f206)) (nd f110 (lf f174) (lf f238))) (nd f62 (nd f94 (lf f158) (lf f222)) (nd f126 (lf f190) .e)))))))
noncomputable def Jh:T Nat:=mO [(80,4),(183,1),(207,5)]
noncomputable def Tryz.tab:aM:={und:=Jl,siz:=Jk,byt:=Jg,gD:=Ka,agg:=Jf,cmp:= .e,held:=JE,gK:=Jj,fns:=Ji,ext:=Jh,merge:=fun _=>false}
end Go.Proofs
namespace Go.Proofs
open Go Go.Am
def oN:FuncId:=5
def ud:FuncId:=6
def oG:FuncId:=7
def ke:FuncId:=8
def oM:FuncId:=10
def lY:FuncId:=12
def ka:FuncId:=14
def jY:FuncId:=15
def lR:FuncId:=17
def lO:FuncId:=21
def lQ:FuncId:=24
def lV:FuncId:=29
def oO:FuncId:=30
def oL:FuncId:=31
def oH:FuncId:=32
def iL:FuncId:=33
def jZ:FuncId:=42
def lW:FuncId:=47
def tX:FuncId:=51
def oJ:FuncId:=54
def lJ:FuncId:=55
def lN:FuncId:=57
def lI:FuncId:=59
def iM:FuncId:=63
def lX:FuncId:=79
def ux:FuncId:=83
def lT:FuncId:=88
def iS:FuncId:=89
def lM:FuncId:=90
def tY:FuncId:=91
def l4:FuncId:=94
def iI:FuncId:=98
def oK:FuncId:=103
def lK:FuncId:=106
def iJ:FuncId:=108
def lU:FuncId:=110
def oF:FuncId:=112
def iO:FuncId:=123
def iR:FuncId:=124
def iK:FuncId:=125
def iN:FuncId:=130
def iH:FuncId:=136
def oI:FuncId:=143
def qU:FuncId:=153
def lS:FuncId:=161
def l5:FuncId:=167
def lP:FuncId:=177
def Ty.string:TypeId:=9
def l7:TypeId:=30
def oT:TypeId:=32
def Ty.jl:TypeId:=77
def Ko:TypeId:=113
def Kp:TypeId:=275
noncomputable abbrev jU:aM:=Tryz.tab
theorem Tryz.h1:Tryz.tab.und.bX Tryz.prog.underlying=Tryz.tab.und:=by kernel_rfl
theorem Tryz.h2:Tryz.tab.siz.bX (fun t=>(Tryz.prog.info? t).map (·.size))=Tryz.tab.siz:=by kernel_rfl
theorem Tryz.h3:Tryz.tab.byt.bX (fun t=>(Tryz.prog.info? t).map (·.bytes))=Tryz.tab.byt:=by kernel_rfl
theorem Tryz.h4:Tryz.tab.gD.bX (fun t=>((Tryz.prog.info? t).bind (·.zero)).map ofConst)=Tryz.tab.gD:=by kernel_rfl
theorem Tryz.h5:Tryz.tab.agg.bX (fun t=>(Tryz.prog.underlying t).map tH)=Tryz.tab.agg:=by kernel_rfl
theorem Tryz.h6:Tryz.tab.held.bX (fun t=>some (Tryz.prog.stoodInHeld t))=Tryz.tab.held:=by kernel_rfl
theorem Tryz.h7:Tryz.tab.gK.bX (fun t=>some (Tryz.prog.eqGuardType Tryz.prog.depth t))=Tryz.tab.gK:=by kernel_rfl
theorem Tryz.h8:Tryz.tab.fns.bX (fun f=>Tryz.prog.funcs[f]?)=Tryz.tab.fns:=by kernel_rfl
theorem Tryz.h9:Tryz.tab.fns.all (fun fn=> !(fn.name== "runtime.NumGoroutine"))=true:=by kernel_rfl
theorem Tryz.gC:aV Tryz.prog Tryz.tab:=aV.of Tryz.h1 Tryz.h2 Tryz.h3 Tryz.h4 Tryz.h5 Tryz.h6 Tryz.h7 Tryz.h8 Tryz.h9
end Go.Proofs
