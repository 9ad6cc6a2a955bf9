/- Part 1: an evaluator, proved sound, and its use at this seat; no condition. -/
import Derived.Laws.Externs
import Derived.Test.YtmfohfbdddlilaaGreatProg
import Derived.KernelRfl
import Derived.Test.YtmfohfbdddlilaaGreatP0
set_option linter.unusedSimpArgs false
set_option linter.unusedVariables false
set_option linter.unusedSectionVars false
set_option linter.deprecated false
set_option maxRecDepth 100000
namespace Go.Am
open Go.RowKit
section
variable [Inhabited aL]
section
variable {P:Program} {tab:bB} (ok:bU P tab) {sub:FuncId->List AV->AH->R (List (AV×AH))} (hsub:lv P tab sub) (hext:lu P tab)
variable {D:Nat->Prop} {E:Env} {K:KS} {base:List Frame} {frC:Frame} {csC:List Frame} {w:World}
variable {ops:Array Oper} {fr0:ai} {cs:List ai} {k:List bM} {lo:Nat} {s:DS} {X:Nat->Prop} {tsR:T AV} {hR:AH} {j:Nat} {l:List Nat} {o:Oper} {v:AV}
def sU (P:Program) (ops:Array Oper) (fr0:ai) (cs:List ai) (k:List bM) (base:List Frame) (s:DS) (X:Nat->Prop) (D:Nat->Prop) (E:Env) (K:KS) (lo:Nat) (l:List Nat) (frC:Frame) (csC:List Frame) (w:World):Prop:=
 ∃tsR' hR' frC' csC' w' D' E',Steps P (lone frC csC w) (lone frC' csC' w')/\eU ops fr0 cs k base s X D' E' K tsR' hR' l frC' csC' w'/\ax D E E'/\(∀i,D i->D' i)/\Kept K w w'/\(∀i,D' i->D i\/lo<=i)
include ok in
theorem Kw (H:dA tab ops fr0.nt fr0.tmps lo s X) (R:eU ops fr0 cs k base s X D E K tsR hR (j::l) frC csC w) (hm:fr0.mode= .run) (ho:ops[j]? =some o) (hC:(s.aP.get j).isSome) (hx:¬X j)
   (hready:∀p∈iI o,X p):sU P ops fr0 cs k base s (fun i=>X i\/i=j) D E K lo l frC csC w:=by
 obtain⟨o',tj,v,ho',hdst,hlook,hkind⟩:=H.lF j hC hx;rw[ho]at ho'
 cases ho';have hl:=Ug H R hlook hx hready;obtain⟨hops,hwant⟩:=zM hl;obtain⟨htr1,htr0⟩:=On H R hC ho hdst;have hfin:=zF (fr0:=fr0) (tsR:=tsR) (l:=l) (k:=k) ho v;have hdomR:=(R.rel.all E (ax.refl _ _)).1.eN;have wrap:∀(N:Nat->Prop) (hR2:AH),vp P (lone frC csC w) D N E K {fr:={fr0 with tmps:=gR fr0.nt tsR o v,todo:= .inRegion ops l::k},cs,h:=hR2} base w->
     (∀i ob,hR2.get i=some ob↔s.h.get i=some ob/\ ∀x∈s.aF,x.2=i->X x.1\/x.1=j)->hR2.next=s.h.next->(∀i,N i->(j,i)∈s.aF)->
     sU P ops fr0 cs k base s (fun i=>X i\/i=j) D E K lo l frC csC w:=by
   intro N hR2 hg hchar hnx hN;obtain⟨frC',csC',w',E1,s1,s2,s3,s4⟩:=hg;refine⟨_,hR2,frC',csC',w',_,E1,s1,⟨s2,hchar,hnx,htr1,htr0,?_⟩,s3,fun i hi=> .inl hi,s4,fun i hi=>hi.elim .inl (fun h=> .inr ((H.al _ (hN i h)).2.2))⟩;rintro x hxm hnx' (hd|hn)
   . exact R.dp x hxm (fun h=>hnx' (.inl h)) hd
   . have:=H.pw x hxm _ (hN _ hn) rfl;exact hnx' (.inr (by rw[this]))
 have hcharA:(∀x∈s.aF,x.1≠j)->∀i ob,hR.get i=some ob↔s.h.get i=some ob/\ ∀x∈s.aF,x.2=i->X x.1\/x.1=j:=by
   intro hno i ob;rw[R.hr i ob];constructor
   . rintro⟨h1,h2⟩;exact⟨h1,fun x hx e=> .inl (h2 x hx e)⟩
   . rintro⟨h1,h2⟩;exact⟨h1,fun x hx e=>(h2 x hx e).resolve_right (hno x hx)⟩
 rcases hkind with⟨hw,rfl,hno⟩|⟨hw,hk⟩
 . exact wrap _ hR (UM R.rel hm rfl ho (by rw[hwant];exact hw) hfin) (hcharA hno) R.hn (fun _ h=>h.elim)
 . have a:=mC R.rel hm rfl ho (by rw[hwant];exact hw);rcases hk with⟨⟨h1,hp,hn1⟩,hno⟩|⟨b,h1,ob,⟨hb1,hb2⟩,hp,hn1,hob,hsb⟩|⟨⟨_,hno⟩,_,_,hr,hp,hrr⟩
   . refine wrap _ hR (ub ok R.rel a (h0:={t:= .e,next:=0}) (h1:=h1) (h2:=hR) (by rw[tW o hops];exact hp) hfin ?_ ?_ ?_ (fun i o h=> .inl (hdomR i o h)) (fun _=>False) ?_ (fun _ h=>h.elim) (fun i hi=>hi.elim (R.rel.eN i) False.elim)) (hcharA hno) R.hn (fun _ h=>h.elim)
     . intro i o' h;cases h
     . intro i o' h;cases h
     . intro i o' h;exact .inr ⟨h,rfl⟩
     . intro h;simp only at h;omega
   . have hbn:=(H.al _ hb1).1;have hget:∀i,(hR.set b ob).get i=if i=b then some ob else hR.get i:=fun i=>AH.bm _ _ _ _
     refine wrap (fun i=>i=b) (hR.set b ob) (ub ok R.rel a (h0:={t:= .e,next:=b}) (h1:=h1) (h2:=hR.set b ob) (by rw[tW o hops];exact hp) hfin ?_ ?_ ?_ ?_ (fun i=>i=b) ?_ ?_ ?_) ?_ R.hn ?_
     . intro i o' h;cases h
     . intro i o' h;cases h
     . intro i o' h;rw[hget]at h;by_cases e:i=b
       . subst e;rw[if_pos rfl]at h;exact .inl (hob.trans h)
       . rw[if_neg e]at h;exact .inr ⟨h,rfl⟩
     . intro i o' h;rw[hget]at h;simp only[AH.eT];left;by_cases e:i=b
       . rw[e,R.hn];exact hbn
       . rw[if_neg e]at h;exact hdomR i o' h
     . intro _;rfl
     . rintro i rfl;exact⟨rfl,R.dp _ hb1 hx⟩
     . rintro i (hi|rfl)
       . exact R.rel.eN i hi
       . simp only[AH.eT];rw[R.hn];exact hbn
     . intro i ob';rw[hget];by_cases e:i=b
       . subst e;rw[if_pos rfl,hsb];constructor
         . intro h;refine⟨h,fun x hx e=> .inr ?_⟩;rw[H.pw x hx _ hb1 e]
         . exact fun h=>h.1
       . rw[if_neg e,R.hr i ob'];constructor
         . rintro⟨h1,h2⟩;exact⟨h1,fun x hx e=> .inl (h2 x hx e)⟩
         . rintro⟨h1,h2⟩;refine⟨h1,fun x hx e'=>(h2 x hx e').resolve_right (fun ej=>e ?_)⟩;rw[<-e',hb2 x hx ej]
     . rintro i rfl;exact hb1
   . refine wrap _ hR (ub ok R.rel a (h0:=hr) (h1:=hr) (h2:=hR) (by rw[tW o hops];exact hp) hfin ?_ ?_ ?_ (fun i o h=> .inl (hdomR i o h)) (fun _=>False) ?_ (fun _ h=>h.elim) (fun i hi=>hi.elim (R.rel.eN i) False.elim)) (hcharA hno) R.hn (fun _ h=>h.elim)
     . intro i o' h;obtain⟨g1,g2,g3⟩:=hrr i o' h;exact(R.hr i o').2 ⟨g2,fun x hx e=>absurd e (g3 x hx)⟩
     . intro i o' h;exact(hrr i o' h).1
     . intro i o' h
       cases hg:hr.get i with
       |none=>exact .inr ⟨h,rfl⟩
       | some ob'=>
         left;have:=(hrr i ob' hg).2.1;rw[((R.hr i o').1 h).1]at this;exact this.symm
     . intro h;omega
end
end
section
variable [Inhabited aL]
section
variable {tab:bB} {ops:Array Oper} {nt lo:Nat} {ts0:T AV} {s s':DS} {X:Nat->Prop} {i:Nat} {o:Oper} {v:AV}
theorem dA.kk (H:dA tab ops nt ts0 lo s X) (hi:ops[i]? =some o) (hr:ij s.aP i o=true) (hok:jB s.aP ops i o=true) (hanX:∀p∈eG s.aP o,X p)
   (e1:s'.ts=gR nt s.ts o v) (e2:s'.aP=s.aP.set i (some (eG s.aP o))) (en:s.h.next<=s'.h.next)
   (ea:∀x∈s'.aF,x∈s.aF) (ea':∀x∈s.aF,x.1∉eG s.aP o->x∈s'.aF) (eh:∀x∈s'.aF,s'.h.get x.2=s.h.get x.2) (hd':∀b ob,s'.h.get b=some ob->b<s'.h.next)
   (er:∀j oj tj vj,(j,tj,vj)∈s.reads->j∉eG s.aP o->ops[j]? =some oj->cls tab oj≠ .kk->cls tab oj≠ .alloc->(j,tj,vj)∈s'.reads/\ ∃hr,fp tab tj hr oj= .ok (vj,hr)/\ ∀b ob,hr.get b=some ob->b<hr.next/\s'.h.get b=some ob/\ ∀x∈s'.aF,x.2≠b):
   dA tab ops nt ts0 lo s' (fun j=>X j\/j=i):=by
 obtain⟨hnone,hpre⟩:=pB hr;obtain⟨hok1,hok2⟩:=xL hok;have hanc:∀j,s'.aP.get j=if j=i then some (eG s.aP o)else s.aP.get j:=by
   intro j;rw[e2,T.bm]
 have hold:∀j,(s.aP.get j).isSome->j≠i/\s'.aP.get j=s.aP.get j:=by
   intro j hj;have hne:j≠i:=by intro e;subst e;rw[hnone]at hj;cases hj
   exact⟨hne,by rw[hanc,if_neg hne]⟩
 have hnd:∀j oj d,(s.aP.get j).isSome->ops[j]? =some oj->oj.dst=some d->o.dst≠some d:=by
   intro j oj d hj hoj hd hod;have:=H.uniq j i oj o d hj hoj hi hd hod;exact(hold j hj).1 this
 have hts:∀t,o.dst≠some t->s'.ts.get t=s.ts.get t:=by
   intro t ht;rw[e1,lg,if_neg];rintro⟨h,_⟩;exact ht h
 refine⟨?_,?_,?_,?_,?_,?_,?_,?_,Aq H.nx en,?_,?_,hd'⟩
 . rintro j (hj|rfl)
   . rw[(hold j (H.cx j hj)).2];exact H.cx j hj
   . rw[hanc,if_pos rfl];rfl
 . rintro j a (hj|rfl) ha p hp
   . rw[(hold j (H.cx j hj)).2]at ha;exact .inl (H.qZ j a hj ha p hp)
   . rw[hanc,if_pos rfl]at ha
     cases ha;exact .inl (hanX p hp)
 . intro j hj;rw[hanc]at hj;by_cases h1:j=i
   . subst h1;exact⟨o,hi⟩
   . rw[if_neg h1]at hj;exact H.op j hj
 . intro j a oj ha hoj;rw[hanc]at ha;by_cases h1:j=i
   . subst h1;rw[if_pos rfl]at ha;rw[hi]at hoj
     cases ha;cases hoj;refine⟨fun p hp=>⟨eO.2 (.inl hp),?_⟩,fun x hx=>?_⟩
     . rw[(hold p (hpre p hp)).2];exact hpre p hp
     . rcases eO.1 hx with h|⟨p,hp,ap,h1,h2⟩
       . exact .inl h
       . exact .inr ⟨p,hp,ap,by rw[(hold p (by rw[h1];rfl)).2];exact h1,h2⟩
   . rw[if_neg h1]at ha;obtain⟨g1,g2⟩:=H.shape j a oj ha hoj;refine⟨fun p hp=>⟨(g1 p hp).1,?_⟩,fun x hx=>?_⟩
     . rw[(hold p (g1 p hp).2).2];exact(g1 p hp).2
     . rcases g2 x hx with h|⟨p,hp,ap,h1,h2⟩
       . exact .inl h
       . exact .inr ⟨p,hp,ap,by rw[(hold p (by rw[h1];rfl)).2];exact h1,h2⟩
 . intro a b oa ob d ha hoa hob hda hdb;rw[hanc]at ha;by_cases h1:a=i
   . subst h1;rw[hi]at hoa;cases hoa;exact(hok2 d hda b ob hob).1 hdb
   . rw[if_neg h1]at ha;exact H.uniq a b oa ob d ha hoa hob hda hdb
 . intro t ht;have h1:o.dst≠some t:=ht i o (by rw[hanc,if_pos rfl];rfl) hi;rw[hts t h1];exact H.pV t (fun j oj hj hoj=>ht j oj (by rw[(hold j hj).2];exact hj) hoj)
 . intro j hj hx;have h1:j≠i:=fun e=>hx (.inr e)
   have hxj:¬X j:=fun h=>hx (.inl h)
   have hjan:j∉eG s.aP o:=fun h=>hxj (hanX j h)
   have hj':(s.aP.get j).isSome:=by rw[hanc,if_neg h1]at hj;exact hj
   obtain⟨oj,tj,vj,g1,g2,g3,g4⟩:=H.lF j hj' hxj;refine⟨oj,tj,vj,g1,?_,?_,?_⟩
   . intro d hd hlt;rw[hts d (hnd j oj d hj' g1 hd)];exact g2 d hd hlt
   . intro t ht;rcases g3 t ht with⟨i1,oi1,k1,k2,k3,k4,k5⟩|⟨k1,k2⟩
     . refine .inl ⟨i1,oi1,k1,k2,k3,by rw[(hold i1 k4).2];exact k4,?_⟩;rw[k5,hts t (hnd i1 oi1 t k4 k1 k2)]
     . refine .inr ⟨k1,?_⟩;intro i' oi a q1 q2 q3;rw[hanc]at q3;by_cases h2:i'=i
       . subst h2;rw[if_pos rfl]at q3;rw[hi]at q1
         cases q1;cases q3;exact .inr ((hok2 t q2 j oj g1).2 hj' ht)
       . rw[if_neg h2]at q3;exact k2 i' oi a q1 q2 q3
   . rcases g4 with⟨k1,k2,k3⟩|⟨k1,k2⟩
     . exact .inl ⟨k1,k2,fun x hx=>k3 x (ea x hx)⟩
     . refine .inr ⟨k1,?_⟩;rcases k2 with k2|⟨b,h1',ob,m1,m2,m3,m4,m5⟩|⟨m1,m2,m3,_⟩
       . exact .inl ⟨k2.1,fun x hx=>k2.2 x (ea x hx)⟩
       . have hm:=ea' _ m1.1 hjan;exact .inr (.inl ⟨b,h1',ob,⟨hm,fun x hx=>m1.2 x (ea x hx)⟩,m2,m3,m4,(eh _ hm).trans m5⟩)
       . obtain⟨q1,q2⟩:=er j oj tj vj m1.1 hjan g1 m2 m3;exact .inr (.inr ⟨⟨q1,fun x hx=>m1.2 x (ea x hx)⟩,m2,m3,q2⟩)
 . intro x hx;have:=H.al x (ea x hx);exact⟨by omega,by rw[(hold _ this.2.1).2];exact this.2.1,this.2.2⟩
 . intro t ht;rw[e1,lg,if_neg (fun h=>absurd h.2 (E8.2 ht))];exact H.tC t ht
 . intro x hx y hy e;exact H.pw x (ea x hx) y (ea y hy) e
theorem JZ {h:AH}:∀(l:List (Nat×T AV×AV)),reread tab ops h l= .ok ()->∀j tj vj,(j,tj,vj)∈l->∃oj h',ops[j]? =some oj/\fp tab tj h oj= .ok (vj,h'):=by
 intro l;induction l with
 |nil=>intro _ j tj vj hm;cases hm
 |cons x l ih=>
  intro h j tj vj hm;obtain⟨i,ts,v⟩:=x;simp only[reread]at h;obtain⟨o,ho,h1⟩:=aw.1 h;obtain⟨⟨u,h'⟩,hp,h2⟩:=aw.1 h1;obtain⟨_,hb,h3⟩:=aw.1 h2;have hb:=AV.beq_eq _ _ (ew.1 hb);rcases Aj.1 hm with e|hm
  . cases e;exact⟨o,h',cZ.1 ho,by rw[<-hb];exact hp⟩
  . exact ih h3 j tj vj hm
end
end
section
variable [Inhabited aL]
section
variable {P:Program} {tab:bB} (ok:bU P tab) {sub:FuncId->List AV->AH->R (List (AV×AH))} (hsub:lv P tab sub) (hext:lu P tab)
variable {D:Nat->Prop} {E:Env} {K:KS} {base:List Frame} {frC:Frame} {csC:List Frame} {w:World}
variable {ops:Array Oper} {fr0:ai} {cs:List ai} {k:List bM} {lo:Nat} {s s2:DS} {X:Nat->Prop} {tsR:T AV} {hR:AH} {j:Nat} {l:List Nat} {o:Oper}
open Classical in
include ok hsub hext in
theorem Vg (H:dA tab ops fr0.nt fr0.tmps lo s X) (Q:eU ops fr0 cs k base s X D E K tsR hR (j::l) frC csC w) (hm:fr0.mode= .run) (ho:ops[j]? =some o) (hr:ij s.aP j o=true)
   (hd:xP tab sub ops fr0.nt j o s= .ok s2) (hready:∀p∈iI o,X p):dA tab ops fr0.nt fr0.tmps lo s2 (fun i=>X i\/i=j)/\sU P ops fr0 cs k base s2 (fun i=>X i\/i=j) D E K lo l frC csC w:=by
 unfold xP at hd;obtain⟨_,hck,hd1⟩:=aw.1 hd;obtain⟨b,hb,hd2⟩:=aw.1 hd1;obtain⟨_,hbt,hd3⟩:=aw.1 hd2;obtain⟨⟨v,h1⟩,hp,hd4⟩:=aw.1 hd3;obtain⟨_,hle,hd5⟩:=aw.1 hd4;obtain⟨_,hrr,hd6⟩:=aw.1 hd5;clear hd hd1 hd2 hd3 hd4 hd5
 cases hd6;have hok:=ew.1 hck;have hbt:b=true:=ew.1 hbt;subst hbt;have hle:=Al (ew.1 hle);obtain⟨hnone,hpre⟩:=pB hr;obtain⟨hok1,hok2⟩:=xL hok;have hxj:¬X j:=fun h=>by have:=H.cx j h;rw[hnone]at this;cases this
 have hanX:∀p∈eG s.aP o,X p:=by
   intro p hp;rcases eO.1 hp with h|⟨q,hq,ap,h1,h2⟩
   . exact hready p h
   . exact H.qZ q ap (hready q hq) h1 p h2
 generalize hhid:(s.aF.filter fun x=> !(cM x.1 (eG s.aP o)))=hid at*
 have hidm:∀x,x∈hid↔x∈s.aF/\x.1∉eG s.aP o:=by
   intro x;rw[<-hhid,Ar];constructor
   . rintro⟨h1,h2⟩;refine⟨h1,fun hm=>?_⟩;rw[dy.2 hm]at h2;cases h2
   . rintro⟨h1,h2⟩;refine⟨h1,?_⟩
     cases hb:cM x.1 (eG s.aP o)with
     |true=>exact absurd (dy.1 hb) h2
     |false=>rfl
 have hidj:∀x∈hid,x.1≠j:=by
   intro x hx e;have:=(H.al x ((hidm x).1 hx).1).2.1;rw[e,hnone]at this;cases this
 have hl:∀t∈ou ops o,tsR.get t=s.ts.get t:=by
   intro t ht;by_cases hw:∃jj oj,ops[jj]? =some oj/\oj.dst=some t/\(s.aP.get jj).isSome
   . obtain⟨jj,oj,g1,g2,g3⟩:=hw;exact Q.pf jj oj t (hready jj (hok1 t ht jj oj g1 g2 g3)) g1 g2
   . rw[Q.pe t (fun jj oj hx hoj hd=>hw ⟨jj,oj,hoj,hd,H.cx jj hx⟩),H.pV t (fun jj oj hc hoj hd=>hw ⟨jj,oj,hoj,hd,hc⟩)]
 obtain⟨hops,hwant⟩:=zM hl;have a:=mC Q.rel hm rfl ho (by rw[hwant];exact hb);have hfin:=zF (fr0:=fr0) (tsR:=tsR) (l:=l) (k:=k) ho v;let h2:=jk h1 s.h hid
 let pd:=hid.filter fun x=>decide (¬(X x.1\/x.1=j))
 let hR2:=iT h2 pd
 have hg2:∀i,h2.get i=if ∃x∈hid,x.2=i then s.h.get i else h1.get i:=fun i=>oL _ _ _ _
 have hn2:h2.next=h1.next:=sb _ _ _;have hchar:∀i ob,hR2.get i=some ob↔h2.get i=some ob/\ ∀x∈hid,x.2=i->X x.1\/x.1=j:=by
   intro i ob;simp only[hR2,iQ];constructor
   . intro h;split at h
     . cases h
     . rename_i hne;refine⟨h,fun x hx e=>?_⟩;by_cases hc:X x.1\/x.1=j
       . exact hc
       . exact absurd ⟨x,by simp only[pd,Ar];exact⟨hx,by simpa using hc⟩,e⟩ hne
   . rintro⟨h1,h2⟩;rw[if_neg]
     . exact h1
     . rintro⟨x,hx,e⟩;simp only[pd,Ar]at hx;have:=h2 x hx.1 e;exact absurd this (by simpa using hx.2)
 have hR2n:hR2.next=h1.next:=(jD _ _).trans hn2;have hgets:=Vc ok hsub hext Q.rel a (h0:=iT s.h hid) (h1:=h1) (h2:=hR2) (v:=v) (by rw[RV o hops];exact hp) hfin
   (by
     intro i ob h;rw[iQ]at h;split at h
     . cases h
     . rename_i hne;refine(Q.hr i ob).2 ⟨h,fun x hx e=>?_⟩;by_cases hc:x.1∈eG s.aP o
       . exact hanX _ hc
       . exact absurd ⟨x,(hidm x).2 ⟨hx,hc⟩,e⟩ hne)
   (by
     intro i ob h;rw[iQ]at h;split at h
     . cases h
     . rw[jD];exact H.hd i ob h)
   (by
     intro i ob h;obtain⟨h3,h4⟩:=(hchar i ob).1 h;rw[hg2]at h3;split at h3
     . rename_i hex;right;refine⟨(Q.hr i ob).2 ⟨h3,fun x hx e=>?_⟩,by rw[iQ,if_pos hex]⟩;obtain⟨y,hy,e'⟩:=hex;have:x=y:=H.pw x hx y ((hidm y).1 hy).1 (e.trans e'.symm);subst this;exact(h4 x hy e').resolve_right (hidj x hy)
     . exact .inl h3)
   (by
     intro i ob h;obtain⟨h3,_⟩:=(hchar i ob).1 h;rw[hg2]at h3;rw[hR2n];split at h3
     . have:=H.hd i ob h3;left;omega
     . exact .inr ⟨h3,Ai _⟩)
   (by rw[jD];exact hle) hR2n (by intro i hi;rw[jD,<-Q.hn];exact Q.rel.eN i hi)
 obtain⟨frC',csC',w',E1,D1,s1,rel1,ag1,dd1,kp1,_,new1⟩:=hgets;rw[jD]at new1;have hdom2:∀i ob,h2.get i=some ob->i<h2.next:=by
   intro i ob h;rw[hn2];rw[hg2]at h;split at h
   . have:=H.hd i ob h;omega
   . rename_i hne;have h3:=(hchar i ob).2 ⟨by rw[hg2,if_neg hne];exact h,fun x hx e=>absurd ⟨x,hx,e⟩ hne⟩;have:=(rel1.all E1 (ax.refl _ _)).1.eN i ob h3;rw[<-hR2n];exact this
 refine⟨?_,gR fr0.nt tsR o v,hR2,frC',csC',w',D1,E1,s1,⟨rel1,hchar,hR2n.trans hn2.symm,?_,?_,?_⟩,ag1,dd1,kp1,?_⟩
 . refine H.kk ho hr hok hanX rfl rfl (by simp only;rw[sb];exact hle) (fun x hx=>((hidm x).1 hx).1) (fun x hx hn=>(hidm x).2 ⟨hx,hn⟩) ?_ hdom2 ?_
   . intro x hx;show h2.get x.2=s.h.get x.2
     rw[hg2,if_pos ⟨x,hx,rfl⟩]
   . intro j' oj tj vj hmr hjan hoj hce hca;have hmf:(j',tj,vj)∈s.reads.filter (fun x=> !(cM x.1 (eG s.aP o))):=by
       rw[Ar];refine⟨hmr,?_⟩
       cases hb:cM j' (eG s.aP o)with
       |true=>exact absurd (dy.1 hb) hjan
       |false=>rfl
     refine⟨hmf,?_⟩;obtain⟨oj',hr',g1,g2⟩:=JZ _ hrr _ _ _ hmf;rw[hoj]at g1
     cases g1;have hsame:=wx ⟨hce,hca⟩ g2;subst hsame;refine⟨_,g2,?_⟩;intro b ob hg;rw[iQ]at hg;split at hg
     . cases hg
     . rename_i hne;exact⟨by rw[jD];exact hdom2 b ob hg,hg,fun x hx e=>hne ⟨x,hx,e⟩⟩
 . intro i oi t hi hoi hd;show(gR fr0.nt tsR o v).get t=(gR fr0.nt s.ts o v).get t
   rw[lg,lg];by_cases hc:o.dst=some t/\t<fr0.nt
   . rw[if_pos hc,if_pos hc]
   . rw[if_neg hc,if_neg hc];rcases hi with hi|rfl
     . exact Q.pf i oi t hi hoi hd
     . rw[ho]at hoi
       cases hoi;have hge:fr0.nt<=t:=D5 (fun hlt=>hc ⟨hd,hlt⟩);rw[H.tC t hge];exact Q.rel.wf.1 t hge
 . intro t ht;rw[lg,if_neg (fun h=>ht j o (.inr rfl) ho h.1)];exact Q.pe t (fun i oi hi hoi=>ht i oi (.inl hi) hoi)
 . intro x hx hnx hD;have hxm:=((hidm x).1 hx).1;rcases new1 x.2 hD with hd|hd
   . exact Q.dp x hxm (fun h=>hnx (.inl h)) hd
   . have:=(H.al x hxm).1;omega
 . intro i hi;rcases new1 i hi with h|h
   . exact .inl h
   . exact .inr (Aq H.nx h)
end
end
section
variable [Inhabited aL]
theorem bN.same {E:Env} {h h':AH} {K:KS} {w:World} (H:bN E h K w) (hg:∀i ob,h'.get i=some ob->h.get i=some ob) (hn:h.next<=h'.next):bN E h' K w:=
 ⟨fun i o hi=>H.obj i o (hg i o hi),fun i o hi=>H.nk i o (hg i o hi),fun i j oi oj hi hj=>H.inj i j oi oj (hg i oi hi) (hg j oj hj),fun i o hi=>AY (H.eN i o (hg i o hi)) hn,H.kb,fun i o hi=>H.im i o (hg i o hi),H.k0⟩
section
variable {tab:bB} {D:Nat->Prop} {E:Env} {K:KS} {base:List Frame} {frC:Frame} {csC:List Frame} {w:World}
variable {ops:Array Oper} {fr0:ai} {cs:List ai} {k:List bM} {lo:Nat} {s s':DS} {X:Nat->Prop} {tsR:T AV} {hR:AH} {j:Nat} {l:List Nat} {o:Oper}
theorem eU.look (H:dA tab ops fr0.nt fr0.tmps lo s X) (Q:eU ops fr0 cs k base s X D E K tsR hR l frC csC w)
   (ht:∀j o t,X j->ops[j]? =some o->o.dst=some t->s'.ts.get t=s.ts.get t) (hn:s.h.next<=s'.h.next)
   (hg:∀i ob,(s'.h.get i=some ob/\ ∀x∈s'.aF,x.2=i->X x.1)↔(s.h.get i=some ob/\ ∀x∈s.aF,x.2=i->X x.1))
   (ha:∀x∈s'.aF,x∈s.aF\/s.h.next<=x.2):eU ops fr0 cs k base s' X D E K tsR {hR with next:=s'.h.next} l frC csC w:=by
 have hget:∀i,({hR with next:=s'.h.next}:AH).get i=hR.get i:=fun _=>rfl
 refine⟨⟨fun E' he=>?_,fun i hi=>?_,Q.rel.wf⟩,?_,rfl,?_,Q.pe,?_⟩
 . obtain⟨g1,g2,g3⟩:=Q.rel.all E' he;exact⟨g1.same (fun i ob h=>h) (by simp only;rw[Q.hn];exact hn),g2,g3⟩
 . have:=Q.rel.eN i hi;simp only at this⊢;rw[Q.hn]at this;omega
 . intro i ob;rw[hget,Q.hr i ob,hg i ob]
 . intro j o t hx ho hd;rw[Q.pf j o t hx ho hd,ht j o t hx ho hd]
 . intro x hx hnx hd;rcases ha x hx with h|h
   . exact Q.dp x h hnx hd
   . have:=Q.rel.eN _ hd;simp only at this;rw[Q.hn]at this;omega
theorem LA:∀(l:List Oper) (k:Nat),pO k l=true->∀j o,l[j]? =some o->∀p∈iI o,p<k+j:=by
 intro l;induction l with
 |nil=>intro k _ j o h;simp at h
 | cons x l ih=>
  intro k h j o hj p hp;simp only[pO,Aa,AI]at h
  cases j with
  |zero=>
   simp only[AE,AX]at hj;subst hj;have:=h.1 p hp;simpa using this
  |succ j=>
   have:=ih (k+1) h.2 j o (by simpa using hj) p hp;omega
end
section
variable {tab:bB} {D:Nat->Prop} {E:Env} {K:KS} {base:List Frame} {frC:Frame} {csC:List Frame} {w:World}
variable {ops:Array Oper} {fr0:ai} {cs:List ai} {k:List bM} {lo:Nat} {X:Nat->Prop} {tsR:T AV} {l:List Nat}
theorem SY {s s':DS} {i:Nat} {o:Oper} {hR:AH} (hf:qx tab ops fr0.nt i o s= .ok (some s')) (hi:ops[i]? =some o) (hr:ij s.aP i o=true) (H:dA tab ops fr0.nt fr0.tmps lo s X)
  (Q:eU ops fr0 cs k base s X D E K tsR hR l frC csC w):∃hR',eU ops fr0 cs k base s' X D E K tsR hR' l frC csC w:=by
 obtain⟨hnone,_⟩:=pB hr;have hxi:¬X i:=fun h=>by have:=H.cx i h;rw[hnone]at this;cases this
 have hput:∀(v:AV) j oj t,X j->ops[j]? =some oj->oj.dst=some t->(gR fr0.nt s.ts o v).get t=s.ts.get t:=by
  intro v j oj t hx ho hd;rw[lg,if_neg];rintro⟨h,_⟩;have:=H.uniq j i oj o t (H.cx j hx) ho hi hd h;exact hxi (this▸hx)
 have hsame:∀(v:AV) (s2:DS),s2.ts=gR fr0.nt s.ts o v->s2.h=s.h->s2.aF=s.aF->∃hR',eU ops fr0 cs k base s2 X D E K tsR hR' l frC csC w:=by
  intro v s2 e1 e2 e3;refine⟨_,Q.look H (s':=s2) ?_ (by rw[e2];exact Ai _) (fun i ob=>by rw[e2,e3]) (fun x hx=> .inl (by rw[<-e3];exact hx))⟩;intro j oj t hx ho hd;rw[e1];exact hput v j oj t hx ho hd
 unfold qx at hf;obtain⟨_,hck,hf1⟩:=aw.1 hf;obtain⟨b,hb,hf2⟩:=aw.1 hf1;clear hf hf1
 cases b with
 |false=>
  simp only[De,if_true]at hf2
  cases hf2;exact hsame _ _ rfl rfl rfl
 | true =>
  simp only[BN,Ak,AB]at hf2;split at hf2
  . cases hf2
  . obtain⟨⟨u,h1⟩,hp,hf3⟩:=aw.1 hf2;obtain⟨_,hn,hf4⟩:=aw.1 hf3;obtain⟨ob,hob,hf5⟩:=aw.1 hf4
    cases hf5;refine⟨_,Q.look H (hput u) (by simp) ?_ ?_⟩
    . intro i' ob';simp only;rw[AH.aY];by_cases e:i'=s.h.next
      . subst e;rw[if_pos rfl];constructor
        . rintro⟨_,h2⟩;exact absurd (h2 _ An rfl) hxi
        . rintro⟨h1,_⟩;have:=H.hd _ _ h1;omega
      . rw[if_neg e];constructor
        . rintro⟨h1,h2⟩;exact⟨h1,fun x hx e'=>h2 x (Ao _ hx) e'⟩
        . rintro⟨h1,h2⟩;refine⟨h1,fun x hx e'=>?_⟩;rcases Aj.1 hx with rfl|hx
          . exact absurd e'.symm e
          . exact h2 x hx e'
    . intro x hx;rcases Aj.1 hx with rfl|hx
      . exact .inr (Ai _)
      . exact .inl hx
  . split at hf2
    . rename_i u h1 hm';obtain⟨_,hn,hf3⟩:=aw.1 hf2
      cases hf3;exact hsame _ _ rfl rfl rfl
    . split at hf2
      . rename_i u h1 hp
        cases hf2;exact hsame _ _ rfl rfl rfl
      . cases hf2
theorem wS:∀(l':List Oper) (n:Nat) (s s':DS) (hR:AH),(∀j o,l'[j]? =some o->ops[n+j]? =some o)->ll tab ops fr0.nt n l' s= .ok s'->dA tab ops fr0.nt fr0.tmps lo s X->
  eU ops fr0 cs k base s X D E K tsR hR l frC csC w->∃hR',eU ops fr0 cs k base s' X D E K tsR hR' l frC csC w:=by
 intro l';induction l' with
 |nil=>intro n s s' hR _ h H Q;simp only[ll]at h;cases h;exact⟨hR,Q⟩
 |cons o l' ih=>
  intro n s s' hR hl h H Q;have hl':∀j o',l'[j]? =some o'->ops[n+1+j]? =some o':=by
    intro j o' hj;have:=hl (j+1) o' (by simpa using hj);rw[show n+1+j=n+(j+1)from by omega];exact this
  simp only[ll]at h;by_cases hr:ij s.aP n o=true
  . simp only[hr,Bh]at h;obtain⟨x,hx,h1⟩:=aw.1 h
    cases x with
    |none=>exact ih (n+1) s s' hR hl' h1 H Q
    |some s1=>
     have hin:ops[n]? =some o:=by simpa using hl 0 o rfl
     obtain⟨hR1,Q1⟩:=SY hx hin hr H Q;exact ih (n+1) s1 s' hR1 hl' h1 (Iw hx hin hr H) Q1
  . have:ij s.aP n o=false:=by simpa using hr
    simp only[this,AS]at h;exact ih (n+1) s s' hR hl' h H Q
end
end
section
variable [Inhabited aL]
def eH (listed:Array Bool) (j:Nat):Prop:=listed.getD j false=true
def ow (n:Nat) (listed:Array Bool):Nat:=((List.range n).filter fun i=> !listed.getD i false).length
theorem RX {p q:Nat->Bool} {i:Nat}:∀(l:List Nat),(∀j,q j=true->p j=true)->i∈l->p i=true->q i=false->(l.filter q).length+1<=(l.filter p).length:=by
 intro l;induction l with
 |nil=>intro _ h;cases h
 |cons x l ih=>
  intro hqp hi hp hq;rcases Aj.1 hi with rfl|hi
  . rw[BG,BG,if_pos hp,if_neg (by rw[hq];simp),AA];have:(l.filter q).length<=(l.filter p).length:=by
      rw[<-E5,<-E5];exact List.countP_mono_left (fun x _=>hqp x)
    omega
  . have:=ih hqp hi hp hq;rw[BG,BG];by_cases h1:q x=true
    . rw[if_pos h1,if_pos (hqp x h1)];simp only[AA];omega
    . rw[if_neg h1];by_cases h2:p x=true
      . rw[if_pos h2];simp only[AA];omega
      . rw[if_neg h2];exact this
theorem xE {listed:Array Bool} {i:Nat} (hi:i<listed.size):eH (listed.setIfInBounds i true)=fun j=>eH listed j\/j=i:=by
 funext j
 apply propext;unfold eH;rw[Dp,Dp,BL];by_cases h:i=j
 . subst h;simp[hi]
 . have:¬j=i:=fun e=>h e.symm
   simp[h,this]
theorem MM {n:Nat} {listed:Array Bool} {i:Nat} (hi:i<n) (hs:i<listed.size) (hx:¬eH listed i):ow n (listed.setIfInBounds i true)+1<=ow n listed:=by
 refine RX _ ?_ (EC.2 hi) (by unfold eH at hx;simpa using hx) ?_
 . intro j hj;have h1:¬eH (listed.setIfInBounds i true) j:=by unfold eH;simpa using hj
   rw[xE hs]at h1;have:¬eH listed j:=fun h=>h1 (.inl h)
   unfold eH at this;simpa using this
 . have:eH (listed.setIfInBounds i true) i:=by rw[xE hs];exact .inr rfl
   unfold eH at this;simp[this]
theorem L5 {n:Nat} {listed:Array Bool} (h:ow n listed=0):∀j,j<n->eH listed j:=by
 intro j hj;unfold ow at h;have:=AP h;rw[DW]at this;have:=this j (EC.2 hj);unfold eH;simpa using this
end
section
variable [Inhabited aL]
section
variable {P:Program} {tab:bB} (ok:bU P tab) {sub:FuncId->List AV->AH->R (List (AV×AH))} (hsub:lv P tab sub) (hext:lu P tab)
variable {K:KS} {base:List Frame}
variable {ops:Array Oper} {fr0:ai} {cs:List ai} {k:List bM} {lo:Nat}
def Fin (P:Program) (fr0:ai) (cs:List ai) (k:List bM) (base:List Frame) (K:KS) (lo:Nat) (sF:DS) (D:Nat->Prop) (E:Env) (frC:Frame) (csC:List Frame) (w:World):Prop:=
 ∃frC' csC' w' D' E',Steps P (lone frC csC w) (lone frC' csC' w')/\Rel D' E' K {fr:={fr0 with tmps:=sF.ts,todo:=k},cs,h:=sF.h} base frC' csC' w'/\ax D E E'/\(∀i,D i->D' i)/\Kept K w w'/\(∀i,D' i->D i\/lo<=i)/\lo<=sF.h.next
def oA (tab:bB) (sub:FuncId->List AV->AH->R (List (AV×AH))) (ops:Array Oper) (nt:Nat) (s sF:DS):Prop:=
 (jK s.aP 0 ops.toList=[]/\sF=s)\/ ∃c o n s2,jK s.aP 0 ops.toList=[(c,o)]/\xP tab sub ops nt c o s= .ok s2/\sx tab sub ops nt n s2= .ok sF
theorem Kd {nt n:Nat} {s sF:DS} (h:sx tab sub ops nt n s= .ok sF):∃s1,ll tab ops nt 0 ops.toList s= .ok s1/\oA tab sub ops nt s1 sF:=by
 cases n with
 |zero=>simp only[sx]at h;cases h
 |succ n=>
  simp only[sx]at h;obtain⟨s1,h1,h2⟩:=aw.1 h;refine⟨s1,h1,?_⟩;split at h2
  . rename_i hc;obtain⟨_,_,h3⟩:=aw.1 h2
    cases h3;exact .inl ⟨hc,rfl⟩
  . rename_i c o hc;obtain⟨s2,h3,h4⟩:=aw.1 h2;exact .inr ⟨c,o,n,s2,hc,h3,h4⟩
  . cases h2
include ok hsub hext in
theorem Oj (hm:fr0.mode= .run) (hlt:pO 0 ops.toList=true):∀(fuel t:Nat) (listed:Array Bool) (s sF:DS) (D:Nat->Prop) (E:Env) (tsR:T AV) (hR:AH) (frC:Frame) (csC:List Frame) (w:World),
  listed.size=ops.size->ow ops.size listed<=fuel->oA tab sub ops fr0.nt s sF->dA tab ops fr0.nt fr0.tmps lo s (eH listed)->
  eU ops fr0 cs k base s (eH listed) D E K tsR hR (Region.linearise.go .any ops fuel t listed []) frC csC w->Fin P fr0 cs k base K lo sF D E frC csC w:=by
 have hend:∀(listed:Array Bool) (s sF:DS) (D:Nat->Prop) (E:Env) (tsR:T AV) (hR:AH) (frC:Frame) (csC:List Frame) (w:World),(∀j,j<ops.size->eH listed j)->
    oA tab sub ops fr0.nt s sF->dA tab ops fr0.nt fr0.tmps lo s (eH listed)->eU ops fr0 cs k base s (eH listed) D E K tsR hR [] frC csC w->Fin P fr0 cs k base K lo sF D E frC csC w:=by
  intro listed s sF D E tsR hR frC csC w hall htodo H Q;rcases htodo with⟨_,rfl⟩|⟨c,o,n,s2,hc,_,_⟩
  . have hts:∀t,tsR.get t=sF.ts.get t:=by
      intro t;by_cases hw:∃(j:Nat) (oj:Oper),ops[j]? =some oj/\oj.dst=some t
      . obtain⟨j,oj,h1,h2⟩:=hw;exact Q.pf j oj t (hall j (Ae.1 h1).1) h1 h2
      . rw[Q.pe t (fun j oj _ h1 h2=>hw ⟨j,oj,h1,h2⟩),H.pV t (fun j oj _ h1 h2=>hw ⟨j,oj,h1,h2⟩)]
    have hst:∀E',Go.step P (lone (bD E' {fr0 with tmps:=tsR,todo:= .inRegion ops []::k}) csC w)= .next (lone (bD E' {fr0 with tmps:=tsR,todo:=k}) csC w):=
      fun E'=>step_lone_go (by simp[stepG,stepG.exec,bD,hm,fG,eA])
    have hconc:∀E',bD E' {fr0 with tmps:=sF.ts,todo:=k}=bD E' {fr0 with tmps:=tsR,todo:=k}:=by
      intro E';have:gX E' sF.ts fr0.nt=gX E' tsR fr0.nt:=by
        unfold gX vw;simp only[hts]
      simp only[bD,this]
    have hfr:=(Q.rel.all E (ax.refl _ _)).2.1;simp only at hfr;refine⟨bD E {fr0 with tmps:=tsR,todo:=k},csC,w,D,E, .one (by rw[<-hfr];exact hst E),⟨fun E' he=>?_,fun i hi=>?_,?_,Q.rel.wf.2⟩,ax.refl _ _,fun _ h=>h,Kept.refl K w,fun i hi=> .inl hi,H.nx⟩
    . obtain⟨g1,g2,g3⟩:=Q.rel.all E' he;refine⟨g1.same (fun i ob h=>(Q.hr i ob).2 ⟨h,fun x hx _=>?_⟩) (by simp only;rw[Q.hn];exact Ai _),?_,g3⟩
      . obtain⟨o,ho⟩:=H.op _ (H.al x hx).2.1;exact hall _ (Ae.1 ho).1
      . simp only;rw[hconc E'];have h1:=hst E';simp only at g2;rw[g2,<-hfr,hst E]at h1;exact(qz (by simpa using h1)).1.symm
    . have:=Q.rel.eN i hi;simp only at this⊢;rw[Q.hn]at this;exact this
    . intro t ht;have:=Q.rel.wf.1 t ht;simp only at this⊢;rw[<-hts t];exact this
  . have hcm:(c,o)∈jK s.aP 0 ops.toList:=by rw[hc];exact An
    obtain⟨j',h1,h2,h3⟩:=IW _ _ _ _ _ hcm;have hlt':c<ops.size:=by
      have:=(Ab.1 h2).1;simp at this;omega
    have:=H.cx c (hall c hlt');rw[(pB h3).1]at this
    cases this
 intro fuel;induction fuel with
 |zero=>
  intro t listed s sF D E tsR hR frC csC w hsz hu htodo H Q;exact hend listed s sF D E tsR hR frC csC w (L5 (by omega)) htodo H (by simpa [Region.linearise.go]using Q)
 | succ fuel ih=>
  intro t listed s sF D E tsR hR frC csC w hsz hu htodo H Q;simp only[Region.linearise.go]at Q;change eU ops fr0 cs k base s (eH listed) D E K tsR hR (match(Region.ready .any ops listed)[t % (Region.ready .any ops listed).length]? with
    |some i=>Region.linearise.go .any ops fuel (t / (Region.ready .any ops listed).length) (listed.setIfInBounds i true) [i]
    |none=>[].reverse) frC csC w at Q
  have hget:∀j,j<ops.size->(listed.getD j true=false↔¬eH listed j):=by
    intro j hj;unfold eH;have:j<listed.size:=by omega
    simp[Array.getD,this]
  cases hi:(Region.ready .any ops listed)[t % (Region.ready .any ops listed).length]? with
  | none=>
    rw[hi]at Q;have hnil:Region.ready .any ops listed=[]:=by
      cases hr:Region.ready .any ops listed with
      |nil=>rfl
      | cons x xs=>
        rw[hr]at hi;have hlt:t % (x::xs).length<(x::xs).length:=Nat.mod_lt _ (by simp);rw[Es]at hi;omega
    have hall:∀j,j<ops.size->eH listed j:=by
      intro j;induction j using Nat.strongRecOn with
      | _ j ihj=>
        intro hj;by_cases hx:eH listed j
        . exact hx
        . exfalso;have hm':j∈Region.ready .any ops listed:=by
           rw[mem_ready];refine⟨(hget j hj).2 hx,ops[j],A7 hj,?_⟩;intro e he hb;have hp:e.on∈iI ops[j]:=Au.2 ⟨e,Ar.2 ⟨by simpa using he,hb⟩,rfl⟩;have hlt':=LA ops.toList 0 hlt j ops[j] (by simp[hj]) e.on hp;exact ihj e.on (by omega) (by omega)
          rw[hnil]at hm'
          cases hm'
    exact hend listed s sF D E tsR hR frC csC w hall htodo H Q
  | some i =>
    rw[hi]at Q;simp only at Q;rw[linearise_go_acc,DQ,DC]at Q;obtain⟨hl1,o,ho,hdeps⟩:=mem_ready.1 (BD hi);have hin:i<ops.size:=(Ae.1 ho).1;have hx:=(hget i hin).1 hl1;have hready:∀p∈iI o,eH listed p:=by
      intro p hp;obtain⟨e,he,rfl⟩:=Au.1 hp;obtain⟨he1,he2⟩:=Ar.1 he;exact hdeps e (by simpa using he1) he2
    have hsz':(listed.setIfInBounds i true).size=ops.size:=by simp[hsz]
    have hu':ow ops.size (listed.setIfInBounds i true)<=fuel:=by
      have:=MM hin (by omega) hx;omega
    have hX':eH (listed.setIfInBounds i true)=fun j=>eH listed j\/j=i:=xE (by omega)
    have hfin:∀(s':DS),oA tab sub ops fr0.nt s' sF->dA tab ops fr0.nt fr0.tmps lo s' (fun j=>eH listed j\/j=i)->
        sU P ops fr0 cs k base s' (fun j=>eH listed j\/j=i) D E K lo (Region.linearise.go .any ops fuel (t / (Region.ready .any ops listed).length) (listed.setIfInBounds i true) []) frC csC w->Fin P fr0 cs k base K lo sF D E frC csC w:=by
      intro s' htd H' hc;obtain⟨tsR',hR',frC',csC',w',D',E',c1,c2,c3,c4,c5,c6⟩:=hc;obtain⟨frF,csF,wF,DF,EF,f1,f2,f3,f4,f5,f6,f7⟩:=ih _ (listed.setIfInBounds i true) s' sF D' E' tsR' hR' frC' csC' w' hsz' hu' htd (by rw[hX'];exact H') (by rw[hX'];exact c2);exact⟨frF,csF,wF,DF,EF,c1.trans f1,f2,c3.trans f3 c4,fun x hx=>f4 x (c4 x hx),c5.trans f5,fun x hx=>(f6 x hx).elim (c6 x) .inr,f7⟩
    by_cases hC:(s.aP.get i).isSome=true
    . exact hfin s htodo (H.tG hC ho hready) (Kw ok H Q hm ho hC hx hready)
    . have hr:ij s.aP i o=true:=by
        unfold ij;simp only[Aa,AI];exact⟨by simpa using hC,fun p hp=>H.cx p (hready p hp)⟩
      have hcm:(i,o)∈jK s.aP 0 ops.toList:=by
        have:=K7 ops.toList 0 s.aP i o (by simpa using ho) (by simpa using hr);simpa using this
      rcases htodo with⟨hc,_⟩|⟨c,o',n,s2,hc,hd,hloop⟩
      . rw[hc]at hcm;cases hcm
      . rw [hc]at hcm;rcases Aj.1 hcm with e|hcm
        . cases e;obtain⟨H2,tsR',hR',frC',csC',w',D',E',c1,c2,c3,c4,c5,c6⟩:=Vg ok hsub hext H Q hm ho hr hd hready;obtain⟨s3,hpass,htd3⟩:=Kd hloop;have hpl:∀j o,ops.toList[j]? =some o->ops[0+j]? =some o:=by
           intro j o hj;simpa using hj
          obtain⟨hR3,Q3⟩:=wS ops.toList 0 s2 s3 hR' hpl hpass H2 c2;exact hfin s3 htd3 (vY ops.toList 0 s2 s3 hpl hpass H2) ⟨tsR',hR3,frC',csC',w',D',E',c1,Q3,c3,c4,c5,c6⟩
        . cases hcm
end
end
section
variable [Inhabited aL]
section
variable {P:Program} {tab:bB} (ok:bU P tab) {sub:FuncId->List AV->AH->R (List (AV×AH))} (hsub:lv P tab sub) (hext:lu P tab)
theorem sB (n j:Nat):¬eH (Array.replicate n false) j:=by
 unfold eH;rw[Dp,Fo];split<;>simp
include ok hsub hext in
theorem zK (hmix:P.follows .mixedOrders=true):F4 P tab sub:=by
 intro fr cs h id ops k ts h' hm ht hd D E K base frC csC w hR;unfold draw at hd;obtain⟨_,hlt,hd1⟩:=aw.1 hd;obtain⟨sF,hloop,hd2⟩:=aw.1 hd1
 cases hd2;have hlt:=ew.1 hlt;let s0:DS:={ts:=fr.tmps,h,aP:= .e,reads:=[],aF:=[]}
 let ord:=w.tape w.drawn (.order frC.fn id)
 let l:=Region.linearise.go .any ops ops.size ord (Array.replicate ops.size false) []
 have hstep:∀E',ax D E E'->Go.step P (lone frC csC w)= .next (lone (bD E' {fr with tmps:=fr.tmps,todo:= .inRegion ops l::k}) csC w.drew):=by
  intro E' he;have e1:=(hR.all E' he).2.1;simp only at e1;refine step_lone_go ?_;have hmC:frC.mode= .run:=by rw[<-e1];simp[bD,hm,fG]
  have htC:frC.todo= .code (.region id ops true)::k.map (eA E'):=by rw[<-e1];simp[bD,ht,eA]
  have hrun:(choose (.order frC.fn id)).run P w= .ok ord w.drew:=by
    simp only[choose,Sem.run,Question.forced,Ak,AB,Question.cut];rfl
  have hsch:Region.schedule (P.follows .mixedOrders) ops ord=l:=by
    simp only[Region.schedule,hmix,Eh,if_true];rfl
  have hgoal:bD E' {fr with tmps:=fr.tmps,todo:= .inRegion ops l::k}={frC with todo:= .inRegion ops l::k.map (eA E')}:=by
    rw[<-e1];rfl
  rw[hgoal];unfold stepG stepG.exec;simp only[hmC,htC,BN,Ak,AB,hrun,hsch,GStep.bare_go]
 have hdom:=(hR.all E (ax.refl _ _)).1.eN;have H0:dA tab ops fr.nt fr.tmps h.next s0 (eH (Array.replicate ops.size false)):=by
  have hnone:∀j,s0.aP.get j=none:=fun _=>rfl
  refine⟨fun j hj=>absurd hj (sB _ _),fun j a hj=>absurd hj (sB _ _),?_,?_,?_,fun _ _=>rfl,?_,fun x hx=>(by cases hx),Ai _,hR.wf.1,fun x hx=>(by cases hx),hdom⟩
  . intro j hj;rw[hnone]at hj;cases hj
  . intro j a o hj;rw[hnone]at hj;cases hj
  . intro i j oi oj d hi;rw[hnone]at hi;cases hi
  . intro j hj;rw[hnone]at hj;cases hj
 have Q0:eU ops fr cs k base s0 (eH (Array.replicate ops.size false)) D E K fr.tmps h l (bD E {fr with tmps:=fr.tmps,todo:= .inRegion ops l::k}) csC w.drew:=by
  refine⟨⟨fun E' he=>?_,hR.eN,hR.wf⟩,fun i ob=>⟨fun h=>⟨h,fun x hx=>(by cases hx)⟩,fun h=>h.1⟩,rfl,fun j o t hx=>absurd hx (sB _ _),fun _ _=>rfl,fun x hx=>by cases hx⟩;obtain⟨g1,g2,g3⟩:=hR.all E' he;refine⟨g1.drew,?_,g3⟩;have h1:=hstep E' he;rw[hstep E (ax.refl _ _)]at h1;exact(qz (by simpa using h1)).1.symm
 obtain⟨s1,hpass,htodo⟩:=Kd hloop;have hpl:∀j o,ops.toList[j]? =some o->ops[0+j]? =some o:=by
  intro j o hj;simpa using hj
 obtain⟨hR1,Q1⟩:=wS ops.toList 0 s0 s1 h hpl hpass H0 Q0;have H1:=vY ops.toList 0 s0 s1 hpl hpass H0;obtain⟨frC',csC',w',D',E',f1,f2,f3,f4,f5,f6,f7⟩:=Oj ok hsub hext hm hlt ops.size ord (Array.replicate ops.size false) s1 sF D E fr.tmps hR1 _ csC w.drew (by simp)
  (by unfold ow;have:=AL (fun i=> !(Array.replicate ops.size false).getD i false) (List.range ops.size);simpa using this) htodo H1 Q1
 exact⟨frC',csC',w',E',D',Steps.head (hstep E (ax.refl _ _)) f1,f2,f3,f4,(Kept.drew K w).trans f5,f7,f6⟩
end
end
section
variable [Inhabited aL]
def o6 (tag:Nat) (fn:Func):Array Value->Sem Value:=
 match tag with
 |1=>Extern.BytealgCompare.compare
 |2=>Extern.AbiNoEscape.same
 |3=>Extern.BytealgMakeNoZero.makeNoZero fn.params fn.resultTypes
 |5=>Extern.BytealgIndexByte.indexByte
 |_=>Extern.SlicesOverlaps.overlaps fn.params fn.resultTypes
def gG (P:Program) (tab:bB):Prop:=∀f tag fn,tab.ext.get f=some tag->tab.fns.get f=some fn->Extern.findNext fn=none/\Extern.find fn=some (o6 tag fn)
theorem Yp (ps rs:Array TypeId) (n:Int):Extern.BytealgMakeNoZero.makeNoZero ps rs #[.int .i64 n]=(do
 let some t:=rs[0]? |stuck "bytealg.MakeNoZero: no result type"
 let .slice elem<-underlying t|stuck "bytealg.MakeNoZero: slice type expected"
 if n<0||n>2 ^ 48 then runtimePanic (.error "makeslice: len out of range")
 let cap<-choose (.appendCap n.toNat 0 elem)
 askRoom cap
 let bytes<-choose (.extern "internal/bytealg.MakeNoZero.bytes" 0)
 let a<-Go.newRow elem (Extern.BytealgMakeNoZero.digits cap bytes #[])
 pure (.slice (some a) n.toNat cap)):=rfl
theorem M6 (ps rs:Array TypeId) (a b:Option Addr) (la lb ca cb:Nat):Extern.SlicesOverlaps.overlaps ps rs #[.slice a la ca, .slice b lb cb]=(do
 let some t:=ps[0]? |stuck "slices.overlaps: no parameter types"
 let .slice elem<-underlying t|stuck "slices.overlaps: slice type expected"
 let size<-sizeOf elem
 match a,b with
 | some a,some b=>
  if la=0\/lb=0\/size=0 then pure (.bool false)
  else if a.block !=b.block&&(<-Go.frozen a)&&(<-Go.frozen b)then unsupported .addressObserved
  else do
   if a.block !=b.block then do
    noView a;noView b
    if<-mayBeOne a b then return .bool ((<-choose (.extern "sameAddr.stringBytes" 2))==1)
   pure (.bool (a.block==b.block&&a.off<b.off+lb*size&&b.off<a.off+la*size))
 |_,_=>pure (.bool false)):=rfl
theorem ZM (b c:Value):Extern.BytealgIndexByte.indexByte #[b,c]=(do
 let b<-Extern.Bytes.bytesOf b
 let c<-Extern.Bytes.asByte c
 match(List.range b.size).find? fun i=>b[i]! ==c with
 |some i=>pure (Go.goInt i)
 |none=>pure (Go.goInt (-1))):=rfl
theorem RS:∀(n t:Nat) (acc:Array Value),(Extern.BytealgMakeNoZero.digits n t acc).size=acc.size+n:=by
 intro n;induction n with
 |zero=>intro t acc;rfl
 |succ n ih=>intro t acc;simp only[Extern.BytealgMakeNoZero.digits,ih,Dl];omega
section
variable {P:Program} {tab:bB} (ok:bU P tab) (het:gG P tab)
include ok het
theorem ZK : lu P tab:=by
 intro f fn args h v h' hfn hb hx w;have hP:=ok.fns f fn hfn;unfold xv at hx;split at hx
 . rename_i tag htag;obtain⟨hn,he⟩:=het f tag fn htag hfn;have hrun:∀a (w:World),(callFunc f a).run P w=((o6 tag fn a).run P w).andThen fun v w'=> .ok (.value v) w':=fun a w=>run_callFunc_extern hP (ok.vQ f fn hfn) (by rw[hb];rfl) hn he a w
   unfold extern at hx;split at hx
   . cases hx;refine⟨(0,0),fun E K H _=>⟨by omega,w,?_,H,Kept.refl K w⟩⟩;rw[hrun];rfl
   . cases hx;refine⟨(0,0),fun E K H _=>⟨by omega,w,?_,H,Kept.refl K w⟩⟩;rw[hrun];rfl
   ·
     rename_i n;obtain⟨t,ht,hx1⟩:=aw.1 hx;obtain⟨d,hd,hx2⟩:=aw.1 hx1;have hPt:=ok.und t d (cZ.1 hd);have ht:=cZ.1 ht;split at hx2
     . rename_i e;obtain⟨z,hz,hx2'⟩:=aw.1 hx2;obtain⟨_,hle,hx3⟩:=aw.1 hx2';obtain⟨⟨h1,b⟩,hrow,hx4⟩:=aw.1 hx3
       cases hx4;have hle:=ew.1 hle;simp only[Aa]at hle;have hz1:=Ag hle.2;have hle:=Al hle.1;subst hz1;obtain⟨sz,hsz,rfl,rfl⟩:=iP hrow;rw[hz]at hsz
       cases hsz;refine⟨(w.heap.size,grownCap w n 0 e),fun E K H hE=>?_⟩;obtain⟨hE1,hE2⟩:=hE (by simp);simp only at hE1 hE2;refine⟨by simp,w.drew.drew.alloc (.cells (Extern.BytealgMakeNoZero.digits (grownCap w n 0 e) ((Question.extern "internal/bytealg.MakeNoZero.bytes" 0).cut (w.drew.tape w.drew.drawn (.extern "internal/bytealg.MakeNoZero.bytes" 0))) #[]) e),?_,?_,?_⟩
       . rw[hrun];have h1:¬((n:Int)<0):=by omega
         have h2:¬((n:Int)>2 ^ 48):=by
           have:(2:Int) ^ 48=281474976710656:=by decide
           rw[this];omega
         have hq:(Question.appendCap n 0 e).cut (w.tape w.drawn (.appendCap n 0 e))=grownCap w n 0 e:=rfl;have hor:((decide ((n:Int)<0))||(decide ((n:Int)>2 ^ 48)))=false:=by rw[Br h1,Br h2];rfl
         show(((Extern.BytealgMakeNoZero.makeNoZero fn.params fn.resultTypes #[.int .i64 (n:Int)]).run P w).andThen fun v w'=> .ok (Next.value v) w')=_
         rw[Yp];simp only[ht,Sem.run_bind,underlying,run_program,Result.andThen_ok,hPt,Sem.run_pure,hor,Ak,AB,run_choose,Question.forced,Dv,hq,World.drew_eq,run_askRoom,qn];simp[af,gi.val,hE1,hE2]
       . exact H.drew.drew.new (by simpa using hE1) ⟨_,_,rfl,⟨_,rfl⟩,by simp[RS,hE2],rfl⟩
       . exact((Kept.drew K w).trans (Kept.drew K w.drew)).trans (Kept.alloc (by simpa using H.kb) _)
     . cases hx2
   ·
     rename_i x y;obtain⟨t,ht,hx1⟩:=aw.1 hx;obtain⟨d,hd,hx2⟩:=aw.1 hx1;have hPt:=ok.und t d (cZ.1 hd);have ht:=cZ.1 ht;split at hx2
     . rename_i e;obtain⟨sz,hsz,hx3⟩:=aw.1 hx2;obtain⟨_,hck,hx4⟩:=aw.1 hx3;clear hx hx1 hx2 hx3;have hs0:sz≠0:=by
         intro e;subst e;simp[R.check]at hck
       have hnone:∀(E:Env) (a b:Option Addr) (la lb ca cb:Nat),(a=none\/b=none)->((o6 4 fn #[.slice a la ca, .slice b lb cb]).run P w)= .ok (.bool false) w:=by
         intro E a b la lb ca cb hab;show(Extern.SlicesOverlaps.overlaps fn.params fn.resultTypes #[.slice a la ca, .slice b lb cb]).run P w=_
         rw[M6];simp only[ht,Sem.run_bind,underlying,run_program,Result.andThen_ok,hPt,Sem.run_pure,kG ok hsz];rcases hab with rfl|rfl
         . rfl
         . cases a<;>rfl
       split at hx4
       . cases hx4;refine⟨(0,0),fun E K H _=>⟨by omega,w,?_,H,Kept.refl K w⟩⟩;rw[hrun];simp only[bY,eM,af];rw[hnone E _ _ _ _ _ _ (.inl rfl)];rfl
       . cases hx4;refine⟨(0,0),fun E K H _=>⟨by omega,w,?_,H,Kept.refl K w⟩⟩;rw[hrun];simp only[bY,eM,af];rw[hnone E _ _ _ _ _ _ (.inl rfl)];rfl
       . cases hx4;refine⟨(0,0),fun E K H _=>⟨by omega,w,?_,H,Kept.refl K w⟩⟩;rw[hrun];simp only[bY,eM,af];rw[hnone E _ _ _ _ _ _ (.inr rfl)];rfl
       . rename_i a i n ca b j m cb;split at hx4
         . rename_i ha hb';have hsame:h'=h:=by
            cases hc:(Nat.beq n 0||Nat.beq m 0)<;>rw[hc]at hx4<;>cases hx4<;>rfl
           subst hsame;refine⟨(0,0),fun E K H _=>⟨by omega,w,?_,H,Kept.refl K w⟩⟩;rw[hrun];simp only[bY,eM,af];have hgo:((o6 4 fn #[.slice (some ⟨E.bh a,i,none⟩) n (ca.val (E.cap a)), .slice (some ⟨E.bh b,j,none⟩) m (cb.val (E.cap b))]).run P w)= .ok (af E v) w:=by
            show(Extern.SlicesOverlaps.overlaps fn.params fn.resultTypes #[.slice (some ⟨E.bh a,i,none⟩) n (ca.val (E.cap a)), .slice (some ⟨E.bh b,j,none⟩) m (cb.val (E.cap b))]).run P w=_
            rw[M6];simp only[ht,Sem.run_bind,underlying,run_program,Result.andThen_ok,hPt,Sem.run_pure,kG ok hsz];by_cases hz:n=0\/m=0
            . rw[if_pos (by rcases hz with h|h<;>simp[h])];have:(Nat.beq n 0||Nat.beq m 0)=true:=by
                rcases hz with rfl|rfl<;>simp
              rw[this]at hx4
              cases hx4;rfl
            . rw[if_neg (by omega)];have h1:Nat.beq n 0=false:=by
                cases hb:Nat.beq n 0
                . rfl
                . exact absurd (.inl (Ag hb)) hz
              have h2:Nat.beq m 0=false:=by
                cases hb:Nat.beq m 0
                . rfl
                . exact absurd (.inr (Ag hb)) hz
              rw[h1,h2]at hx4
              cases hx4;have hfa:=wU H ha i;have hfb:=wU H hb' j;have hfrz:(Go.frozen ⟨E.bh a,i,none⟩).run P w= .ok false w:=by simp[Go.frozen,Sem.run,hfa]
              by_cases hab:a=b
              . subst hab;simp[af];congr 1<;>(rw[A2];simp)
              . have hne:E.bh a≠E.bh b:=fun e=>hab (H.inj a b _ _ ha hb' (by simp[AO.ro]) e)
                have hb0:Nat.beq a b=false:=by
                  cases hb:Nat.beq a b
                  . rfl
                  . exact absurd (Ag hb) hab
                simp[af,hne,hb0,hfrz,wu H ha,wu H hb',IA H ha hb']
           rw[hgo];rfl
         . cases hx4
       . cases hx4
     . cases hx2
   ·
     rename_i a c
     cases hx;refine⟨(0,0),fun E K H _=>⟨by omega,w,?_,H,Kept.refl K w⟩⟩;rw[hrun];have hgo:(o6 5 fn #[.string ⟨a.toArray⟩, .int .u8 c]).run P w= .ok (.int .i64 (F7 ⟨a.toArray⟩ c.toNat.toUInt8)) w:=by
       show(Extern.BytealgIndexByte.indexByte #[.string ⟨a.toArray⟩, .int .u8 c]).run P w=_
       rw[ZM];unfold F7;simp only[Extern.Bytes.bytesOf,Extern.Bytes.asByte,Sem.run_bind,Sem.run_pure,Result.andThen_ok];generalize List.find? (fun i=>(ByteArray.mk a.toArray)[i]! ==c.toNat.toUInt8) (List.range (ByteArray.mk a.toArray).size)=r
       cases r<;>rfl
     simp only[bY,eM,af];rw[hgo];rfl
   . cases hx
 . cases hx
end
end
def T.dK {α:Type}:(Nat->Option α)->T α->T α
 |_, .e=> .e
 |f, .n v l r=> .n (match v with|none=>none|some _=>f 0) (T.dK (fun k=>f (2*k+1)) l) (T.dK (fun k=>f (2*k+2)) r)
def T.all {α:Type} (p:α->Bool):T α->Bool
 | .e=>true
 | .n v l r=>(match v with|none=>true|some a=>p a)&&T.all p l&&T.all p r
theorem kE {α:Type}:∀(t:T α) (f:Nat->Option α),T.dK f t=t->∀k v,t.get k=some v->f k=some v:=by
 intro t;induction t with
 |e=>intro f _ k v h;simp[jR]at h
 |n x l r ihl ihr=>
  intro f h k v hk;simp only[T.dK,T.n.injEq]at h;obtain⟨h1,h2,h3⟩:=h;rw[pU]at hk;split at hk
  . rename_i h0;subst h0;subst hk;exact h1
  . split at hk
    . have:=ihl _ h2 _ _ hk;rw[show 2*(k / 2)+1=k from by omega]at this;exact this
    . have:=ihr _ h3 _ _ hk;rw[show 2*(k / 2 - 1)+2=k from by omega]at this;exact this
theorem QS {α:Type} {p:α->Bool}:∀(t:T α),T.all p t=true->∀k v,t.get k=some v->p v=true:=by
 intro t;induction t with
 |e=>intro _ k v h;simp[jR]at h
 |n x l r ihl ihr=>
  intro h k v hk;simp only[T.all,Aa]at h;obtain⟨⟨h1,h2⟩,h3⟩:=h;rw[pU]at hk;split at hk
  . subst hk;exact h1
  . split at hk
    . exact ihl h2 _ _ hk
    . exact ihr h3 _ _ hk
theorem bU.of {P:Program} {tab:bB} (h1:tab.und.dK P.underlying=tab.und) (h2:tab.siz.dK (fun t=>(P.info? t).map (·.size))=tab.siz) (h3:tab.byt.dK (fun t=>(P.info? t).map (·.bytes))=tab.byt)
   (h4:tab.ly.dK (fun t=>((P.info? t).bind (·.zero)).map qE)=tab.ly) (h5:tab.agg.dK (fun t=>(P.underlying t).map Gv)=tab.agg) (h6:tab.held.dK (fun t=>some (P.stoodInHeld t))=tab.held)
   (h7:tab.lE.dK (fun t=>some (P.eqGuardType P.depth t))=tab.lE) (h8:tab.fns.dK (fun f=>P.funcs[f]?)=tab.fns) (h9:tab.fns.all (fun fn=> !(fn.name== "runtime.NumGoroutine"))=true):bU P tab:=by
 refine⟨kE _ _ h1,?_,?_,?_,?_,?_,?_,kE _ _ h8,?_⟩
 . intro t n h;have:=kE _ _ h2 t n h;simpa [As]using this
 . intro t n h;have:=kE _ _ h3 t n h;simpa [As]using this
 . intro t z h;have:=kE _ _ h4 t z h;simp only[As,Ez]at this;obtain⟨v,⟨i,hi,hv⟩,rfl⟩:=this;exact⟨i,hi,fun E=>by rw[Iu];exact hv⟩
 . intro t b h;have:=kE _ _ h5 t b h;simpa [As]using this
 . intro t b h;have:=kE _ _ h6 t b h;simpa using this
 . intro t b h;have:=kE _ _ h7 t b h;simpa using this
 . intro f fn h;have:=QS _ h9 f fn h;simpa using this
theorem gG.of {P:Program} {tab:bB} (l:List (Nat×Nat)) (hl:∀f tag,tab.ext.get f=some tag->(f,tag)∈l) (hf:∀x∈l,∀fn,tab.fns.get x.1=some fn->Extern.findNext fn=none/\Extern.find fn=some (o6 x.2 fn)):gG P tab:=
 fun f tag fn h1 h2=>hf (f,tag) (hl f tag h1) fn h2
def fB:AH:={t:= .e,next:=0}
theorem LX (E:Env) (K:KS) (w:World) (hK:∀b,K b->b<w.heap.size) (hk0:∀b,b<K.b->K b):bN E fB K w:=by
 have h0:∀i,fB.get i=none:=fun i=>rfl
 refine⟨fun i o h=>?_,fun i o h=>?_,fun i j oi oj h=>?_,fun i o h=>?_,hK,fun i o h=>?_,hk0⟩<;>(rw[h0]at h;cases h)
def ti:List (Nat×Nat)->T Nat
 |[]=> .e
 |(f,t)::l=>(ti l).set f (some t)
theorem Ur:∀(l:List (Nat×Nat)) (f tag:Nat),(ti l).get f=some tag->(f,tag)∈l:=by
 intro l;induction l with
 |nil=>intro f tag h;simp[ti,jR]at h
 |cons x l ih=>
  intro f tag h;obtain⟨a,b⟩:=x;simp only[ti,T.bm]at h;split at h
  . rename_i e;subst e
    cases h;exact An
  . exact Ao _ (ih f tag h)
theorem Qp {P:Program} {tab:bB} (l:List (Nat×Nat)) (hl:tab.ext=ti l) (hf:∀x∈l,∃fn,tab.fns.get x.1=some fn/\Extern.findNext fn=none/\Extern.find fn=some (o6 x.2 fn)):gG P tab:=
 gG.of l (fun f tag h=>Ur l f tag (by rw[<-hl];exact h)) (fun x hx fn h=>by
  obtain⟨fn',h1,h2⟩:=hf x hx;rw[h1]at h
  cases h;exact h2)
end Go.Am
namespace Go.Proofs
open Go.Am
open Tryz
def nd {α:Type} (x:α) (l r:T α):T α:= .n (some x) l r
def lf {α:Type} (x:α):T α:= .n (some x) .e .e
noncomputable def PJ:T TypeDesc:=(nd t0.desc (nd t1.desc (nd t3.desc (nd t7.desc (.n none .e (nd t47.desc (.n none (lf t143.desc) .e) (.n none .e (lf t239.desc)))) (nd t23.desc (nd t38.desc (nd t71.desc (lf t135.desc) (lf t199.desc)) (.n none (lf t167.desc) .e)) (.n none (.n none .e (lf t215.desc)) .e))) (.n none (.n none (nd t34.desc .e (lf t99.desc)) (.n none (.n none (lf t147.desc) .e) .e)) (nd t27.desc (nd t43.desc .e (.n none .e (lf t217.desc))) (.n none .e (nd t123.desc (lf t187.desc) (lf t251.desc)))))) (nd t5.desc (nd t9.desc (.n none (lf t32.desc) .e) (.n none (nd t41.desc (.n none (lf t137.desc) .e) (nd t104.desc (lf t168.desc) .e)) (.n none (nd t88.desc .e (lf t217.desc)) .e))) (.n none (.n none (nd t36.desc (.n none .e (lf t197.desc)) (lf t101.desc)) (.n none (.n none (lf t148.desc) .e) .e)) (nd t3.desc (nd t44.desc (.n none (lf t141.desc) (lf t204.desc)) .e) .e)))) (nd t2.desc (nd t4.desc (.n none (.n none (nd t32.desc (lf t64.desc) (.n none (lf t160.desc) .e)) (nd t47.desc (.n none (lf t143.desc) (lf t3.desc)) .e)) (nd t23.desc (nd t40.desc (lf t71.desc) (nd t104.desc (lf t168.desc) .e)) (.n none (lf t88.desc) .e))) (.n none (.n none (nd t36.desc .e (nd t100.desc (lf t164.desc) .e)) (nd t52.desc (.n none (lf t148.desc) .e) .e)) (.n none (nd t44.desc (.n none .e (lf t204.desc)) .e) (.n none .e (lf t123.desc))))) (nd t5.desc (.n none (.n none (nd t34.desc .e (.n none (lf t162.desc) .e)) .e) (.n none (nd t41.desc (.n none (lf t137.desc) (lf t202.desc)) (lf t106.desc)) (.n none .e (lf t122.desc)))) (.n none (nd t22.desc (nd t38.desc (lf t70.desc) (lf t102.desc)) .e) (.n none (.n none (.n none (lf t141.desc) .e) .e) (.n none .e (lf t34.desc)))))))
noncomputable def PI:T Nat:=(nd 1 (nd 1 (nd 1 (nd 4 (.n none .e (nd 11 (.n none (lf 6) .e) (.n none .e (lf 1)))) (nd 3 (nd 8 (nd 4 (lf 1) (lf 1)) (.n none (lf 1) .e)) (.n none (.n none .e (lf 1)) .e))) (.n none (.n none (nd 3 .e (lf 1)) (.n none (.n none (lf 1) .e) .e)) (nd 1 (nd 1 .e (.n none .e (lf 1))) (.n none .e (nd 13 (lf 1) (lf 1)))))) (nd 1 (nd 1 (.n none (lf 2) .e) (.n none (nd 19 (.n none (lf 1) .e) (nd 4 (lf 3) .e)) (.n none (nd 5 .e (lf 1)) .e))) (.n none (.n none (nd 3 (.n none .e (lf 1)) (lf 1)) (.n none (.n none (lf 1) .e) .e)) (nd 1 (nd 3 (.n none (lf 4) (lf 1)) .e) .e)))) (nd 1 (nd 1 (.n none (.n none (nd 2 (lf 1) (.n none (lf 1) .e)) (nd 11 (.n none (lf 6) (lf 1)) .e)) (nd 3 (nd 1 (lf 4) (nd 4 (lf 3) .e)) (.n none (lf 5) .e))) (.n none (.n none (nd 3 .e (nd 1 (lf 1) .e)) (nd 1 (.n none (lf 1) .e) .e)) (.n none (nd 3 (.n none .e (lf 1)) .e) (.n none .e (lf 13))))) (nd 1 (.n none (.n none (nd 3 .e (.n none (lf 1) .e)) .e) (.n none (nd 19 (.n none (lf 1) (lf 1)) (lf 1)) (.n none .e (lf 1)))) (.n none (nd 1 (nd 8 (lf 1) (lf 1)) .e) (.n none (.n none (.n none (lf 4) .e) .e) (.n none .e (lf 3)))))))
noncomputable def Qg:T Nat:=(nd 0 (nd 8 (nd 8 (nd 24 (.n none .e (nd 96 (.n none (lf 64) .e) (.n none .e (lf 8)))) (nd 48 (nd 48 (nd 48 (lf 8) (lf 24)) (.n none (lf 8) .e)) (.n none (.n none .e (lf 4)) .e))) (.n none (.n none (nd 24 .e (lf 8)) (.n none (.n none (lf 8) .e) .e)) (nd 8 (nd 24 .e (.n none .e (lf 8))) (.n none .e (nd 128 (lf 8) (lf 8)))))) (nd 1 (nd 16 (.n none (lf 16) .e) (.n none (nd 176 (.n none (lf 8) .e) (nd 32 (lf 24) .e)) (.n none (nd 72 .e (lf 8)) .e))) (.n none (.n none (nd 24 (.n none .e (lf 8)) (lf 8)) (.n none (.n none (lf 8) .e) .e)) (nd 8 (nd 72 (.n none (lf 40) (lf 8)) .e) .e)))) (nd 8 (nd 1 (.n none (.n none (nd 16 (lf 24) (.n none (lf 24) .e)) (nd 96 (.n none (lf 64) (lf 8)) .e)) (nd 48 (nd 24 (lf 48) (nd 32 (lf 24) .e)) (.n none (lf 72) .e))) (.n none (.n none (nd 24 .e (nd 8 (lf 8) .e)) (nd 24 (.n none (lf 8) .e) .e)) (.n none (nd 72 (.n none .e (lf 8)) .e) (.n none .e (lf 128))))) (nd 1 (.n none (.n none (nd 24 .e (.n none (lf 8) .e)) .e) (.n none (nd 176 (.n none (lf 8) (lf 24)) (lf 8)) (.n none .e (lf 8)))) (.n none (nd 24 (nd 48 (lf 24) (lf 8)) .e) (.n none (.n none (.n none (lf 40) .e) .e) (.n none .e (lf 24)))))))
noncomputable def PK:T AV:=(nd (.bG []) (nd (.bL) (nd (.int .i64 0) (nd (.agg [.int .i64 0, .int .i64 0, .bool false, .int .u8 0]) (.n none .e (nd (.agg [.str [], .str [], .str [], .str [], .bool false, .bool false, .bool false, .bool false, .int .i64 0, .int .i64 0, .int .i64 0]) (.n none (lf (.agg [.str [], .str [], .bool false, .bool false, .str [], .int .i64 0])) .e) (.n none .e (lf (.bo))))) (nd (.agg [.str [], .str [], .str []]) (nd (.agg [.str [], .bool false, .bool false, .bool false, .bool false, .int .i64 0, .int .i64 0, .int .i64 0]) (nd (.agg [.int .i64 0, .int .i64 0, .int .i64 0, .nils]) (lf (.bF)) (lf (.nils))) (.n none (lf (.bL)) .e)) (.n none (.n none .e (lf (.int .u32 0))) .e))) (.n none (.n none (nd (.agg [.int .i64 0, .int .i64 0, .int .i64 0]) .e (lf (.bF))) (.n none (.n none (lf (.bF)) .e) .e)) (nd (.bo) (nd (.nils) .e (.n none .e (lf (.int .u64 0)))) (.n none .e (nd (.agg [.int .i64 0, .str [], .str [], .str [], .str [], .bool false, .bool false, .bool false, .bool false, .int .i64 0, .int .i64 0, .int .i64 0, .nils]) (lf (.int .u64 0)) (lf (.bo))))))) (nd (.int .u8 0) (nd (.str []) (.n none (lf (.agg [.int .i64 0, .int .i64 0])) .e) (.n none (nd (.agg [.int .i64 0, .int .i64 0, .int .i64 0, .int .i64 0, .int .i64 0, .int .i64 0, .int .i64 0, .str [], .str [], .str [], .str [], .bool false, .bool false, .bool false, .bool false, .int .i64 0, .int .i64 0, .int .i64 0, .nils]) (.n none (lf (.bL)) .e) (nd (.agg [.bF, .bF, .bF, .bo]) (lf (.agg [.str [], .bool false, .bool false])) .e)) (.n none (nd (.agg [.int .i64 0, .int .i64 0, .int .i64 0, .nils, .nils]) .e (lf (.int .u64 0))) .e))) (.n none (.n none (nd (.agg [.int .i64 0, .int .i64 0, .int .i64 0]) (.n none .e (lf (.bL))) (lf (.bF))) (.n none (.n none (lf (.agg [.bF])) .e) .e)) (nd (.int .i64 0) (nd (.agg [.nils, .nils, .nils]) (.n none (lf (.agg [.str [], .str [], .bool false, .bool false])) (lf (.bL))) .e) .e)))) (nd (.int .i64 0) (nd (.bool false) (.n none (.n none (nd (.agg [.int .i64 0, .int .i64 0]) (lf (.nils)) (.n none (lf (.nils)) .e)) (nd (.agg [.str [], .str [], .str [], .str [], .bool false, .bool false, .bool false, .bool false, .int .i64 0, .int .i64 0, .int .i64 0]) (.n none (lf (.agg [.str [], .str [], .bool false, .bool false, .str [], .int .i64 0])) (lf (.int .i64 0))) .e)) (nd (.agg [.str [], .str [], .str []]) (nd (.nils) (lf (.agg [.int .i64 0, .int .i64 0, .int .i64 0, .nils])) (nd (.agg [.bF, .bF, .bF, .bo]) (lf (.agg [.str [], .bool false, .bool false])) .e)) (.n none (lf (.agg [.int .i64 0, .int .i64 0, .int .i64 0, .nils, .nils])) .e))) (.n none (.n none (nd (.agg [.int .i64 0, .int .i64 0, .int .i64 0]) .e (nd (.bF) (lf (.bL)) .e)) (nd (.nils) (.n none (lf (.agg [.bF])) .e) .e)) (.n none (nd (.agg [.nils, .nils, .nils]) (.n none .e (lf (.bL))) .e) (.n none .e (lf (.agg [.int .i64 0, .str [], .str [], .str [], .str [], .bool false, .bool false, .bool false, .bool false, .int .i64 0, .int .i64 0, .int .i64 0, .nils])))))) (nd (.int .u8 0) (.n none (.n none (nd (.agg [.int .i64 0, .int .i64 0, .int .i64 0]) .e (.n none (lf (.bL)) .e)) .e) (.n none (nd (.agg [.int .i64 0, .int .i64 0, .int .i64 0, .int .i64 0, .int .i64 0, .int .i64 0, .int .i64 0, .str [], .str [], .str [], .str [], .bool false, .bool false, .bool false, .bool false, .int .i64 0, .int .i64 0, .int .i64 0, .nils]) (.n none (lf (.bL)) (lf (.nils))) (lf (.bL))) (.n none .e (lf (.bL))))) (.n none (nd (.nils) (nd (.agg [.str [], .bool false, .bool false, .bool false, .bool false, .int .i64 0, .int .i64 0, .int .i64 0]) (lf (.nils)) (lf (.bo))) .e) (.n none (.n none (.n none (lf (.agg [.str [], .str [], .bool false, .bool false])) .e) .e) (.n none .e (lf (.agg [.int .i64 0, .int .i64 0, .int .i64 0]))))))))
noncomputable def Qf:T Bool:=(nd false (nd false (nd false (nd true (.n none .e (nd true (.n none (lf true) .e) (.n none .e (lf false)))) (nd true (nd true (nd true (lf false) (lf false)) (.n none (lf false) .e)) (.n none (.n none .e (lf false)) .e))) (.n none (.n none (nd true .e (lf false)) (.n none (.n none (lf false) .e) .e)) (nd false (nd false .e (.n none .e (lf false))) (.n none .e (nd true (lf false) (lf false)))))) (nd false (nd false (.n none (lf true) .e) (.n none (nd true (.n none (lf false) .e) (nd true (lf true) .e)) (.n none (nd true .e (lf false)) .e))) (.n none (.n none (nd true (.n none .e (lf false)) (lf false)) (.n none (.n none (lf true) .e) .e)) (nd false (nd true (.n none (lf true) (lf false)) .e) .e)))) (nd false (nd false (.n none (.n none (nd true (lf false) (.n none (lf false) .e)) (nd true (.n none (lf true) (lf false)) .e)) (nd true (nd false (lf true) (nd true (lf true) .e)) (.n none (lf true) .e))) (.n none (.n none (nd true .e (nd false (lf false) .e)) (nd false (.n none (lf true) .e) .e)) (.n none (nd true (.n none .e (lf false)) .e) (.n none .e (lf true))))) (nd false (.n none (.n none (nd true .e (.n none (lf false) .e)) .e) (.n none (nd true (.n none (lf false) (lf false)) (lf false)) (.n none .e (lf false)))) (.n none (nd false (nd true (lf false) (lf false)) .e) (.n none (.n none (.n none (lf true) .e) .e) (.n none .e (lf true)))))))
noncomputable def PW:T Bool:=(nd false (nd false (nd false (nd false (.n none .e (nd false (.n none (lf false) .e) (.n none .e (lf false)))) (nd false (nd false (nd false (lf false) (lf false)) (.n none (lf false) .e)) (.n none (.n none .e (lf false)) .e))) (.n none (.n none (nd false .e (lf false)) (.n none (.n none (lf false) .e) .e)) (nd false (nd false .e (.n none .e (lf false))) (.n none .e (nd false (lf false) (lf false)))))) (nd false (nd false (.n none (lf false) .e) (.n none (nd false (.n none (lf false) .e) (nd false (lf false) .e)) (.n none (nd false .e (lf false)) .e))) (.n none (.n none (nd false (.n none .e (lf false)) (lf false)) (.n none (.n none (lf false) .e) .e)) (nd false (nd false (.n none (lf false) (lf false)) .e) .e)))) (nd false (nd false (.n none (.n none (nd false (lf false) (.n none (lf false) .e)) (nd false (.n none (lf false) (lf false)) .e)) (nd false (nd false (lf false) (nd false (lf false) .e)) (.n none (lf false) .e))) (.n none (.n none (nd false .e (nd false (lf false) .e)) (nd false (.n none (lf false) .e) .e)) (.n none (nd false (.n none .e (lf false)) .e) (.n none .e (lf false))))) (nd false (.n none (.n none (nd false .e (.n none (lf false) .e)) .e) (.n none (nd false (.n none (lf false) (lf false)) (lf false)) (.n none .e (lf false)))) (.n none (nd false (nd false (lf false) (lf false)) .e) (.n none (.n none (.n none (lf false) .e) .e) (.n none .e (lf false)))))))
noncomputable def PH:T Bool:=(nd false (nd false (nd false (nd false (.n none .e (nd false (.n none (lf false) .e) (.n none .e (lf false)))) (nd false (nd false (nd false (lf false) (lf false)) (.n none (lf false) .e)) (.n none (.n none .e (lf false)) .e))) (.n none (.n none (nd false .e (lf false)) (.n none (.n none (lf false) .e) .e)) (nd false (nd false .e (.n none .e (lf false))) (.n none .e (nd false (lf false) (lf false)))))) (nd false (nd false (.n none (lf false) .e) (.n none (nd false (.n none (lf false) .e) (nd false (lf false) .e)) (.n none (nd false .e (lf false)) .e))) (.n none (.n none (nd false (.n none .e (lf false)) (lf false)) (.n none (.n none (lf false) .e) .e)) (nd false (nd false (.n none (lf false) (lf false)) .e) .e)))) (nd false (nd false (.n none (.n none (nd false (lf false) (.n none (lf false) .e)) (nd false (.n none (lf false) (lf false)) .e)) (nd false (nd false (lf false) (nd false (lf false) .e)) (.n none (lf false) .e))) (.n none (.n none (nd false .e (nd false (lf false) .e)) (nd false (.n none (lf false) .e) .e)) (.n none (nd false (.n none .e (lf false)) .e) (.n none .e (lf false))))) (nd false (.n none (.n none (nd false .e (.n none (lf false) .e)) .e) (.n none (nd false (.n none (lf false) (lf false)) (lf false)) (.n none .e (lf false)))) (.n none (nd false (nd false (lf false) (lf false)) .e) (.n none (.n none (.n none (lf false) .e) .e) (.n none .e (lf false)))))))
noncomputable def PG:T Func:=(.n none (.n none (.n none (.n none (nd f15 (nd f31 (nd f63 (nd f127 (lf f255) .e) (lf f191)) (nd f95 (lf f159) (lf f223))) (.n none (nd f79 (lf f143) (lf f207)) (nd f111 (lf f175) (lf f239)))) (nd f23 (nd f39 (nd f71 (nd f135 (lf f263) .e) (lf f199)) (nd f103 (lf f167) (lf f231))) (nd f55 (.n none (lf f151) (lf f215)) (nd f119 (lf f183) (lf f247))))) (.n none (.n none (.n none (nd f67 (nd f131 (lf f259) .e) (lf f195)) (nd f99 (lf f163) (lf f227))) (nd f51 (.n none (lf f147) (lf f211)) (nd f115 (lf f179) (lf f243)))) (nd f27 (nd f43 (nd f75 (nd f139 (lf f267) .e) (lf f203)) (nd f107 (lf f171) (lf f235))) (.n none (.n none (lf f155) (lf f219)) (nd f123 (lf f187) (lf f251)))))) (.n none (.n none (.n none (nd f33 (nd f65 (nd f129 (lf f257) .e) (lf f193)) (.n none (lf f161) (lf f225))) (.n none (nd f81 (lf f145) .e) (nd f113 (lf f177) (lf f241)))) (nd f25 (nd f41 (nd f73 (.n none (lf f265) .e) (lf f201)) (.n none (lf f169) (lf f233))) (nd f57 (nd f89 (lf f153) (lf f217)) (nd f121 (lf f185) (lf f249))))) (.n none (nd f21 (.n none (nd f69 (nd f133 (lf f261) .e) (lf f197)) (nd f101 (lf f165) (lf f229))) (.n none (nd f85 (lf f149) (lf f213)) (nd f117 (lf f181) (lf f245)))) (nd f29 (nd f45 (nd f77 (nd f141 (lf f269) .e) (lf f205)) (nd f109 (lf f173) (lf f237))) (.n none (nd f93 (lf f157) (lf f221)) (nd f125 (lf f189) (lf f253))))))) (.n none (.n none (.n none (nd f16 (nd f32 (nd f64 (nd f128 (lf f256) .e) (lf f192)) (nd f96 (lf f160) (lf f224))) (.n none (nd f80 (lf f144) (lf f208)) (nd f112 (lf f176) (lf f240)))) (nd f24 (nd f40 (nd f72 (nd f136 (lf f264) .e) (lf f200)) (.n none .e (lf f232))) (nd f56 (nd f88 (lf f152) (lf f216)) (nd f120 (lf f184) (lf f248))))) (nd f12 (.n none (nd f36 (nd f68 (.n none (lf f260) .e) (lf f196)) (nd f100 (lf f164) (lf f228))) (nd f52 (nd f84 (lf f148) (lf f212)) (nd f116 (lf f180) (lf f244)))) (nd f28 (.n none (nd f76 (nd f140 (lf f268) .e) (lf f204)) (nd f108 (lf f172) (lf f236))) (.n none (nd f92 (lf f156) (lf f220)) (nd f124 (lf f188) (lf f252)))))) (.n none (nd f10 (.n none (.n none (nd f66 (nd f130 (lf f258) .e) (lf f194)) (nd f98 .e (lf f226))) (nd f50 (nd f82 (lf f146) (lf f210)) (nd f114 (lf f178) (lf f242)))) (.n none (.n none (nd f74 (nd f138 (lf f266) .e) (lf f202)) (.n none (lf f170) (lf f234))) (.n none (nd f90 (lf f154) (lf f218)) (nd f122 (lf f186) (lf f250))))) (nd f14 (.n none (.n none (nd f70 (nd f134 (lf f262) .e) (lf f198)) (nd f102 (lf f166) (lf f230))) (nd f54 (nd f86 (lf f150) (lf f214)) (nd f118 (lf f182) (lf f246)))) (nd f30 (.n none (nd f78 (nd f142 (lf f270) .e) (lf f206)) (nd f110 (lf f174) (lf f238))) (.n none (nd f94 (lf f158) (lf f222)) (nd f126 (lf f190) (lf f254))))))))
noncomputable def PF:T Nat:=ti [(136,4),(244,1)]
noncomputable def Tryz.tab:bB:={und:=PJ,siz:=PI,byt:=Qg,ly:=PK,agg:=Qf,cmp:= .e,held:=PW,lE:=PH,fns:=PG,ext:=PF,merge:=fun _=>false}
end Go.Proofs
namespace Go.Proofs
open Go Go.Am
def OZ:FuncId:=10
def pg:FuncId:=12
def GX:FuncId:=16
def G8:FuncId:=21
def GZ:FuncId:=23
def nL:FuncId:=24
def rO:FuncId:=25
def pj:FuncId:=27
def HM:FuncId:=29
def GQ:FuncId:=30
def rK:FuncId:=32
def ni:FuncId:=33
def lT:FuncId:=36
def GV:FuncId:=39
def nv:FuncId:=40
def nF:FuncId:=41
def rH:FuncId:=43
def kC:FuncId:=45
def nz:FuncId:=50
def ng:FuncId:=51
def rP:FuncId:=52
def Hx:FuncId:=54
def kX:FuncId:=55
def Pd:FuncId:=56
def H3:FuncId:=57
def rL:FuncId:=63
def HD:FuncId:=65
def vH:FuncId:=68
def HL:FuncId:=74
def rj:FuncId:=75
def rG:FuncId:=76
def HZ:FuncId:=78
def G6:FuncId:=79
def vD:FuncId:=80
def ph:FuncId:=81
def lS:FuncId:=82
def vI:FuncId:=84
def np:FuncId:=88
def rf:FuncId:=89
def Ho:FuncId:=90
def Hw:FuncId:=92
def ny:FuncId:=93
def GW:FuncId:=94
def nh:FuncId:=95
def GR:FuncId:=96
def Pc:FuncId:=102
def Hm:FuncId:=107
def HA:FuncId:=108
def GP:FuncId:=109
def Hv:FuncId:=110
def rM:FuncId:=113
def Hp:FuncId:=114
def G4:FuncId:=115
def G5:FuncId:=116
def G7:FuncId:=117
def pq:FuncId:=118
def HN:FuncId:=119
def rN:FuncId:=121
def O1:FuncId:=122
def rh:FuncId:=123
def rC:FuncId:=124
def Hu:FuncId:=125
def GY:FuncId:=126
def rI:FuncId:=127
def vE:FuncId:=128
def HE:FuncId:=131
def rE:FuncId:=133
def rD:FuncId:=134
def GS:FuncId:=135
def Hl:FuncId:=141
def H4:FuncId:=143
def HP:FuncId:=144
def HY:FuncId:=145
def rA:FuncId:=146
def O7:FuncId:=147
def HJ:FuncId:=148
def HK:FuncId:=149
def HQ:FuncId:=150
def HF:FuncId:=151
def HI:FuncId:=152
def HB:FuncId:=154
def rm:FuncId:=155
def G3:FuncId:=157
def HR:FuncId:=160
def nJ:FuncId:=163
def nH:FuncId:=164
def ri:FuncId:=165
def rJ:FuncId:=166
def rn:FuncId:=167
def Hn:FuncId:=171
def Hy:FuncId:=172
def nO:FuncId:=173
def rB:FuncId:=174
def ru:FuncId:=175
def pn:FuncId:=176
def G0:FuncId:=177
def HH:FuncId:=178
def HG:FuncId:=179
def vG:FuncId:=180
def GO:FuncId:=184
def nK:FuncId:=203
def nC:FuncId:=204
def nD:FuncId:=205
def Hc:FuncId:=206
def nA:FuncId:=207
def yV:FuncId:=208
def HC:FuncId:=219
def nG:FuncId:=221
def nN:FuncId:=222
def nq:FuncId:=223
def Hz:FuncId:=224
def nE:FuncId:=225
def ry:FuncId:=226
def po:FuncId:=227
def rz:FuncId:=228
def O0:FuncId:=230
def nr:FuncId:=240
def nu:FuncId:=241
def nI:FuncId:=242
def GU:FuncId:=243
def G1:FuncId:=249
def nm:FuncId:=250
def nj:FuncId:=251
def nf:FuncId:=252
def rF:FuncId:=258
def Ty.string:TypeId:=9
def vz:TypeId:=24
def vy:TypeId:=33
def Ty.mA:TypeId:=35
def yT:TypeId:=42
def Qo:TypeId:=45
def GN:TypeId:=48
def Ic:TypeId:=126
noncomputable abbrev qX:bB:=Tryz.tab
theorem Tryz.h1:Tryz.tab.und.dK Tryz.prog.underlying=Tryz.tab.und:=by kernel_rfl
theorem Tryz.h2:Tryz.tab.siz.dK (fun t=>(Tryz.prog.info? t).map (·.size))=Tryz.tab.siz:=by kernel_rfl
theorem Tryz.h3:Tryz.tab.byt.dK (fun t=>(Tryz.prog.info? t).map (·.bytes))=Tryz.tab.byt:=by kernel_rfl
theorem Tryz.h4:Tryz.tab.ly.dK (fun t=>((Tryz.prog.info? t).bind (·.zero)).map qE)=Tryz.tab.ly:=by kernel_rfl
theorem Tryz.h5:Tryz.tab.agg.dK (fun t=>(Tryz.prog.underlying t).map Gv)=Tryz.tab.agg:=by kernel_rfl
theorem Tryz.h6:Tryz.tab.held.dK (fun t=>some (Tryz.prog.stoodInHeld t))=Tryz.tab.held:=by kernel_rfl
theorem Tryz.h7:Tryz.tab.lE.dK (fun t=>some (Tryz.prog.eqGuardType Tryz.prog.depth t))=Tryz.tab.lE:=by kernel_rfl
theorem Tryz.h8:Tryz.tab.fns.dK (fun f=>Tryz.prog.funcs[f]?)=Tryz.tab.fns:=by kernel_rfl
theorem Tryz.h9:Tryz.tab.fns.all (fun fn=> !(fn.name== "runtime.NumGoroutine"))=true:=by kernel_rfl
theorem Tryz.kB:bU Tryz.prog Tryz.tab:=bU.of Tryz.h1 Tryz.h2 Tryz.h3 Tryz.h4 Tryz.h5 Tryz.h6 Tryz.h7 Tryz.h8 Tryz.h9
end Go.Proofs
