/- Part 1: an evaluator, proved sound, and its use at this seat; no condition. -/
import Derived.Laws.Externs
import Derived.Test.YtmfohfbdddlilaaGreatProg
import Derived.KernelRfl
import Derived.Test.YtmfohfbdddlilaaGreatP0
set_option linter.unusedSimpArgs false
set_option linter.unusedVariables false
set_option linter.unusedSectionVars false
set_option linter.deprecated false
set_option maxRecDepth 100000
namespace Go.Am
open Go.RowKit
section
variable [Inhabited aF]
section
variable {tab:aZ} {ops:Array Oper} {nt lo:Nat} {ts0:T AV} {s s':DS} {X:Nat->Prop} {i:Nat} {o:Oper} {v:AV}
theorem cU.jf (H:cU tab ops nt ts0 lo s X) (hi:ops[i]? =some o) (hr:gv s.aE i o=true) (hok:iE s.aE ops i o=true) (hanX:∀p∈dS s.aE o,X p)
   (e1:s'.ts=fX nt s.ts o v) (e2:s'.aE=s.aE.set i (some (dS s.aE o))) (en:s.h.next<=s'.h.next)
   (ea:∀x∈s'.ax,x∈s.ax) (ea':∀x∈s.ax,x.1∉dS s.aE o->x∈s'.ax) (eh:∀x∈s'.ax,s'.h.get x.2=s.h.get x.2) (hd':∀b ob,s'.h.get b=some ob->b<s'.h.next)
   (er:∀j oj tj vj,(j,tj,vj)∈s.reads->j∉dS s.aE o->ops[j]? =some oj->cls tab oj≠ .jf->cls tab oj≠ .alloc->(j,tj,vj)∈s'.reads/\ ∃hr,eM tab tj hr oj= .ok (vj,hr)/\ ∀b ob,hr.get b=some ob->b<hr.next/\s'.h.get b=some ob/\ ∀x∈s'.ax,x.2≠b):
   cU tab ops nt ts0 lo s' (fun j=>X j\/j=i):=by
 obtain⟨hnone,hpre⟩:=nL hr;obtain⟨hok1,hok2⟩:=vl hok;have hanc:∀j,s'.aE.get j=if j=i then some (dS s.aE o)else s.aE.get j:=by
   intro j;rw[e2,T.aS]
 have hold:∀j,(s.aE.get j).isSome->j≠i/\s'.aE.get j=s.aE.get j:=by
   intro j hj;have hne:j≠i:=by intro e;subst e;rw[hnone]at hj;cases hj
   exact⟨hne,by rw[hanc,if_neg hne]⟩
 have hnd:∀j oj d,(s.aE.get j).isSome->ops[j]? =some oj->oj.dst=some d->o.dst≠some d:=by
   intro j oj d hj hoj hd hod;have:=H.uniq j i oj o d hj hoj hi hd hod;exact(hold j hj).1 this
 have hts:∀t,o.dst≠some t->s'.ts.get t=s.ts.get t:=by
   intro t ht;rw[e1,jQ,if_neg];rintro⟨h,_⟩;exact ht h
 refine⟨?_,?_,?_,?_,?_,?_,?_,?_,Aq H.nx en,?_,?_,hd'⟩
 . rintro j (hj|rfl)
   . rw[(hold j (H.cx j hj)).2];exact H.cx j hj
   . rw[hanc,if_pos rfl];rfl
 . rintro j a (hj|rfl) ha p hp
   . rw[(hold j (H.cx j hj)).2]at ha;exact .inl (H.pf j a hj ha p hp)
   . rw[hanc,if_pos rfl]at ha
     cases ha;exact .inl (hanX p hp)
 . intro j hj;rw[hanc]at hj;by_cases h1:j=i
   . subst h1;exact⟨o,hi⟩
   . rw[if_neg h1]at hj;exact H.op j hj
 . intro j a oj ha hoj;rw[hanc]at ha;by_cases h1:j=i
   . subst h1;rw[if_pos rfl]at ha;rw[hi]at hoj
     cases ha;cases hoj;refine⟨fun p hp=>⟨ec.2 (.inl hp),?_⟩,fun x hx=>?_⟩
     . rw[(hold p (hpre p hp)).2];exact hpre p hp
     . rcases ec.1 hx with h|⟨p,hp,ap,h1,h2⟩
       . exact .inl h
       . exact .inr ⟨p,hp,ap,by rw[(hold p (by rw[h1];rfl)).2];exact h1,h2⟩
   . rw[if_neg h1]at ha;obtain⟨g1,g2⟩:=H.shape j a oj ha hoj;refine⟨fun p hp=>⟨(g1 p hp).1,?_⟩,fun x hx=>?_⟩
     . rw[(hold p (g1 p hp).2).2];exact(g1 p hp).2
     . rcases g2 x hx with h|⟨p,hp,ap,h1,h2⟩
       . exact .inl h
       . exact .inr ⟨p,hp,ap,by rw[(hold p (by rw[h1];rfl)).2];exact h1,h2⟩
 . intro a b oa ob d ha hoa hob hda hdb;rw[hanc]at ha;by_cases h1:a=i
   . subst h1;rw[hi]at hoa;cases hoa;exact(hok2 d hda b ob hob).1 hdb
   . rw[if_neg h1]at ha;exact H.uniq a b oa ob d ha hoa hob hda hdb
 . intro t ht;have h1:o.dst≠some t:=ht i o (by rw[hanc,if_pos rfl];rfl) hi;rw[hts t h1];exact H.od t (fun j oj hj hoj=>ht j oj (by rw[(hold j hj).2];exact hj) hoj)
 . intro j hj hx;have h1:j≠i:=fun e=>hx (.inr e)
   have hxj:¬X j:=fun h=>hx (.inl h)
   have hjan:j∉dS s.aE o:=fun h=>hxj (hanX j h)
   have hj':(s.aE.get j).isSome:=by rw[hanc,if_neg h1]at hj;exact hj
   obtain⟨oj,tj,vj,g1,g2,g3,g4⟩:=H.ke j hj' hxj;refine⟨oj,tj,vj,g1,?_,?_,?_⟩
   . intro d hd hlt;rw[hts d (hnd j oj d hj' g1 hd)];exact g2 d hd hlt
   . intro t ht;rcases g3 t ht with⟨i1,oi1,k1,k2,k3,k4,k5⟩|⟨k1,k2⟩
     . refine .inl ⟨i1,oi1,k1,k2,k3,by rw[(hold i1 k4).2];exact k4,?_⟩;rw[k5,hts t (hnd i1 oi1 t k4 k1 k2)]
     . refine .inr ⟨k1,?_⟩;intro i' oi a q1 q2 q3;rw[hanc]at q3;by_cases h2:i'=i
       . subst h2;rw[if_pos rfl]at q3;rw[hi]at q1
         cases q1;cases q3;exact .inr ((hok2 t q2 j oj g1).2 hj' ht)
       . rw[if_neg h2]at q3;exact k2 i' oi a q1 q2 q3
   . rcases g4 with⟨k1,k2,k3⟩|⟨k1,k2⟩
     . exact .inl ⟨k1,k2,fun x hx=>k3 x (ea x hx)⟩
     . refine .inr ⟨k1,?_⟩;rcases k2 with k2|⟨b,h1',ob,m1,m2,m3,m4,m5⟩|⟨m1,m2,m3,_⟩
       . exact .inl ⟨k2.1,fun x hx=>k2.2 x (ea x hx)⟩
       . have hm:=ea' _ m1.1 hjan;exact .inr (.inl ⟨b,h1',ob,⟨hm,fun x hx=>m1.2 x (ea x hx)⟩,m2,m3,m4,(eh _ hm).trans m5⟩)
       . obtain⟨q1,q2⟩:=er j oj tj vj m1.1 hjan g1 m2 m3;exact .inr (.inr ⟨⟨q1,fun x hx=>m1.2 x (ea x hx)⟩,m2,m3,q2⟩)
 . intro x hx;have:=H.al x (ea x hx);exact⟨by omega,by rw[(hold _ this.2.1).2];exact this.2.1,this.2.2⟩
 . intro t ht;rw[e1,jQ,if_neg (fun h=>absurd h.2 (EV.2 ht))];exact H.qZ t ht
 . intro x hx y hy e;exact H.nK x (ea x hx) y (ea y hy) e
theorem Ge {h:AH}:∀(l:List (Nat×T AV×AV)),reread tab ops h l= .ok ()->∀j tj vj,(j,tj,vj)∈l->∃oj h',ops[j]? =some oj/\eM tab tj h oj= .ok (vj,h'):=by
 intro l;induction l with
 |nil=>intro _ j tj vj hm;cases hm
 |cons x l ih=>
  intro h j tj vj hm;obtain⟨i,ts,v⟩:=x;simp only[reread]at h;obtain⟨o,ho,h1⟩:=ai.1 h;obtain⟨⟨u,h'⟩,hp,h2⟩:=ai.1 h1;obtain⟨_,hb,h3⟩:=ai.1 h2;have hb:=AV.beq_eq _ _ (dK.1 hb);rcases Aj.1 hm with e|hm
  . cases e;exact⟨o,h',cE.1 ho,by rw[<-hb];exact hp⟩
  . exact ih h3 j tj vj hm
end
end
section
variable [Inhabited aF]
section
variable {P:Program} {tab:aZ} (ok:bw P tab) {sub:FuncId->List AV->AH->R (List (AV×AH))} (hsub:jY P tab sub) (hext:jX P tab)
variable {D:Nat->Prop} {E:Env} {K:KS} {base:List Frame} {frC:Frame} {csC:List Frame} {w:World}
variable {ops:Array Oper} {fr0:af} {cs:List af} {k:List bm} {lo:Nat} {s s2:DS} {X:Nat->Prop} {tsR:T AV} {hR:AH} {j:Nat} {l:List Nat} {o:Oper}
open Classical in
include ok hsub hext in
theorem NJ (H:cU tab ops fr0.nt fr0.tmps lo s X) (Q:eA ops fr0 cs k base s X D E K tsR hR (j::l) frC csC w) (hm:fr0.mode= .run) (ho:ops[j]? =some o) (hr:gv s.aE j o=true)
   (hd:u6 tab sub ops fr0.nt j o s= .ok s2) (hready:∀p∈gL o,X p):cU tab ops fr0.nt fr0.tmps lo s2 (fun i=>X i\/i=j)/\qG P ops fr0 cs k base s2 (fun i=>X i\/i=j) D E K lo l frC csC w:=by
 unfold u6 at hd;obtain⟨_,hck,hd1⟩:=ai.1 hd;obtain⟨b,hb,hd2⟩:=ai.1 hd1;obtain⟨_,hbt,hd3⟩:=ai.1 hd2;obtain⟨⟨v,h1⟩,hp,hd4⟩:=ai.1 hd3;obtain⟨_,hle,hd5⟩:=ai.1 hd4;obtain⟨_,hrr,hd6⟩:=ai.1 hd5;clear hd hd1 hd2 hd3 hd4 hd5
 cases hd6;have hok:=dK.1 hck;have hbt:b=true:=dK.1 hbt;subst hbt;have hle:=Al (dK.1 hle);obtain⟨hnone,hpre⟩:=nL hr;obtain⟨hok1,hok2⟩:=vl hok;have hxj:¬X j:=fun h=>by have:=H.cx j h;rw[hnone]at this;cases this
 have hanX:∀p∈dS s.aE o,X p:=by
   intro p hp;rcases ec.1 hp with h|⟨q,hq,ap,h1,h2⟩
   . exact hready p h
   . exact H.pf q ap (hready q hq) h1 p h2
 generalize hhid:(s.ax.filter fun x=> !(cq x.1 (dS s.aE o)))=hid at*
 have hidm:∀x,x∈hid↔x∈s.ax/\x.1∉dS s.aE o:=by
   intro x;rw[<-hhid,AB];constructor
   . rintro⟨h1,h2⟩;refine⟨h1,fun hm=>?_⟩;rw[cQ.2 hm]at h2;cases h2
   . rintro⟨h1,h2⟩;refine⟨h1,?_⟩
     cases hb:cq x.1 (dS s.aE o)with
     |true=>exact absurd (cQ.1 hb) h2
     |false=>rfl
 have hidj:∀x∈hid,x.1≠j:=by
   intro x hx e;have:=(H.al x ((hidm x).1 hx).1).2.1;rw[e,hnone]at this;cases this
 have hl:∀t∈mA ops o,tsR.get t=s.ts.get t:=by
   intro t ht;by_cases hw:∃jj oj,ops[jj]? =some oj/\oj.dst=some t/\(s.aE.get jj).isSome
   . obtain⟨jj,oj,g1,g2,g3⟩:=hw;exact Q.nC jj oj t (hready jj (hok1 t ht jj oj g1 g2 g3)) g1 g2
   . rw[Q.nA t (fun jj oj hx hoj hd=>hw ⟨jj,oj,hoj,hd,H.cx jj hx⟩),H.od t (fun jj oj hc hoj hd=>hw ⟨jj,oj,hoj,hd,hc⟩)]
 obtain⟨hops,hwant⟩:=xl hl;have a:=kX Q.rel hm rfl ho (by rw[hwant];exact hb);have hfin:=xg (fr0:=fr0) (tsR:=tsR) (l:=l) (k:=k) ho v;let h2:=ik h1 s.h hid
 let pd:=hid.filter fun x=>decide (¬(X x.1\/x.1=j))
 let hR2:=gV h2 pd
 have hg2:∀i,h2.get i=if ∃x∈hid,x.2=i then s.h.get i else h1.get i:=fun i=>mU _ _ _ _
 have hn2:h2.next=h1.next:=qf _ _ _;have hchar:∀i ob,hR2.get i=some ob↔h2.get i=some ob/\ ∀x∈hid,x.2=i->X x.1\/x.1=j:=by
   intro i ob;simp only[hR2,gR];constructor
   . intro h;split at h
     . cases h
     . rename_i hne;refine⟨h,fun x hx e=>?_⟩;by_cases hc:X x.1\/x.1=j
       . exact hc
       . exact absurd ⟨x,by simp only[pd,AB];exact⟨hx,by simpa using hc⟩,e⟩ hne
   . rintro⟨h1,h2⟩;rw[if_neg]
     . exact h1
     . rintro⟨x,hx,e⟩;simp only[pd,AB]at hx;have:=h2 x hx.1 e;exact absurd this (by simpa using hx.2)
 have hR2n:hR2.next=h1.next:=(iH _ _).trans hn2;have hgets:=NF ok hsub hext Q.rel a (h0:=gV s.h hid) (h1:=h1) (h2:=hR2) (v:=v) (by rw[KD o hops];exact hp) hfin
   (by
     intro i ob h;rw[gR]at h;split at h
     . cases h
     . rename_i hne;refine(Q.hr i ob).2 ⟨h,fun x hx e=>?_⟩;by_cases hc:x.1∈dS s.aE o
       . exact hanX _ hc
       . exact absurd ⟨x,(hidm x).2 ⟨hx,hc⟩,e⟩ hne)
   (by
     intro i ob h;rw[gR]at h;split at h
     . cases h
     . rw[iH];exact H.hd i ob h)
   (by
     intro i ob h;obtain⟨h3,h4⟩:=(hchar i ob).1 h;rw[hg2]at h3;split at h3
     . rename_i hex;right;refine⟨(Q.hr i ob).2 ⟨h3,fun x hx e=>?_⟩,by rw[gR,if_pos hex]⟩;obtain⟨y,hy,e'⟩:=hex;have:x=y:=H.nK x hx y ((hidm y).1 hy).1 (e.trans e'.symm);subst this;exact(h4 x hy e').resolve_right (hidj x hy)
     . exact .inl h3)
   (by
     intro i ob h;obtain⟨h3,_⟩:=(hchar i ob).1 h;rw[hg2]at h3;rw[hR2n];split at h3
     . have:=H.hd i ob h3;left;omega
     . exact .inr ⟨h3,Ah _⟩)
   (by rw[iH];exact hle) hR2n (by intro i hi;rw[iH,<-Q.hn];exact Q.rel.eo i hi)
 obtain⟨frC',csC',w',E1,D1,s1,rel1,ag1,dd1,kp1,_,new1⟩:=hgets;rw[iH]at new1;have hdom2:∀i ob,h2.get i=some ob->i<h2.next:=by
   intro i ob h;rw[hn2];rw[hg2]at h;split at h
   . have:=H.hd i ob h;omega
   . rename_i hne;have h3:=(hchar i ob).2 ⟨by rw[hg2,if_neg hne];exact h,fun x hx e=>absurd ⟨x,hx,e⟩ hne⟩;have:=(rel1.all E1 (ak.refl _ _)).1.eo i ob h3;rw[<-hR2n];exact this
 refine⟨?_,fX fr0.nt tsR o v,hR2,frC',csC',w',D1,E1,s1,⟨rel1,hchar,hR2n.trans hn2.symm,?_,?_,?_⟩,ag1,dd1,kp1,?_⟩
 . refine H.jf ho hr hok hanX rfl rfl (by simp only;rw[qf];exact hle) (fun x hx=>((hidm x).1 hx).1) (fun x hx hn=>(hidm x).2 ⟨hx,hn⟩) ?_ hdom2 ?_
   . intro x hx;show h2.get x.2=s.h.get x.2
     rw[hg2,if_pos ⟨x,hx,rfl⟩]
   . intro j' oj tj vj hmr hjan hoj hce hca;have hmf:(j',tj,vj)∈s.reads.filter (fun x=> !(cq x.1 (dS s.aE o))):=by
       rw[AB];refine⟨hmr,?_⟩
       cases hb:cq j' (dS s.aE o)with
       |true=>exact absurd (cQ.1 hb) hjan
       |false=>rfl
     refine⟨hmf,?_⟩;obtain⟨oj',hr',g1,g2⟩:=Ge _ hrr _ _ _ hmf;rw[hoj]at g1
     cases g1;have hsame:=tS ⟨hce,hca⟩ g2;subst hsame;refine⟨_,g2,?_⟩;intro b ob hg;rw[gR]at hg;split at hg
     . cases hg
     . rename_i hne;exact⟨by rw[iH];exact hdom2 b ob hg,hg,fun x hx e=>hne ⟨x,hx,e⟩⟩
 . intro i oi t hi hoi hd;show(fX fr0.nt tsR o v).get t=(fX fr0.nt s.ts o v).get t
   rw[jQ,jQ];by_cases hc:o.dst=some t/\t<fr0.nt
   . rw[if_pos hc,if_pos hc]
   . rw[if_neg hc,if_neg hc];rcases hi with hi|rfl
     . exact Q.nC i oi t hi hoi hd
     . rw[ho]at hoi
       cases hoi;have hge:fr0.nt<=t:=DQ (fun hlt=>hc ⟨hd,hlt⟩);rw[H.qZ t hge];exact Q.rel.wf.1 t hge
 . intro t ht;rw[jQ,if_neg (fun h=>ht j o (.inr rfl) ho h.1)];exact Q.nA t (fun i oi hi hoi=>ht i oi (.inl hi) hoi)
 . intro x hx hnx hD;have hxm:=((hidm x).1 hx).1;rcases new1 x.2 hD with hd|hd
   . exact Q.dp x hxm (fun h=>hnx (.inl h)) hd
   . have:=(H.al x hxm).1;omega
 . intro i hi;rcases new1 i hi with h|h
   . exact .inl h
   . exact .inr (Aq H.nx h)
end
end
section
variable [Inhabited aF]
theorem bn.same {E:Env} {h h':AH} {K:KS} {w:World} (H:bn E h K w) (hg:∀i ob,h'.get i=some ob->h.get i=some ob) (hn:h.next<=h'.next):bn E h' K w:=
 ⟨fun i o hi=>H.obj i o (hg i o hi),fun i o hi=>H.nk i o (hg i o hi),fun i j oi oj hi hj=>H.inj i j oi oj (hg i oi hi) (hg j oj hj),fun i o hi=>AU (H.eo i o (hg i o hi)) hn,H.kb,fun i o hi=>H.im i o (hg i o hi),H.k0⟩
section
variable {tab:aZ} {D:Nat->Prop} {E:Env} {K:KS} {base:List Frame} {frC:Frame} {csC:List Frame} {w:World}
variable {ops:Array Oper} {fr0:af} {cs:List af} {k:List bm} {lo:Nat} {s s':DS} {X:Nat->Prop} {tsR:T AV} {hR:AH} {j:Nat} {l:List Nat} {o:Oper}
theorem eA.look (H:cU tab ops fr0.nt fr0.tmps lo s X) (Q:eA ops fr0 cs k base s X D E K tsR hR l frC csC w)
   (ht:∀j o t,X j->ops[j]? =some o->o.dst=some t->s'.ts.get t=s.ts.get t) (hn:s.h.next<=s'.h.next)
   (hg:∀i ob,(s'.h.get i=some ob/\ ∀x∈s'.ax,x.2=i->X x.1)↔(s.h.get i=some ob/\ ∀x∈s.ax,x.2=i->X x.1))
   (ha:∀x∈s'.ax,x∈s.ax\/s.h.next<=x.2):eA ops fr0 cs k base s' X D E K tsR {hR with next:=s'.h.next} l frC csC w:=by
 have hget:∀i,({hR with next:=s'.h.next}:AH).get i=hR.get i:=fun _=>rfl
 refine⟨⟨fun E' he=>?_,fun i hi=>?_,Q.rel.wf⟩,?_,rfl,?_,Q.nA,?_⟩
 . obtain⟨g1,g2,g3⟩:=Q.rel.all E' he;exact⟨g1.same (fun i ob h=>h) (by simp only;rw[Q.hn];exact hn),g2,g3⟩
 . have:=Q.rel.eo i hi;simp only at this⊢;rw[Q.hn]at this;omega
 . intro i ob;rw[hget,Q.hr i ob,hg i ob]
 . intro j o t hx ho hd;rw[Q.nC j o t hx ho hd,ht j o t hx ho hd]
 . intro x hx hnx hd;rcases ha x hx with h|h
   . exact Q.dp x h hnx hd
   . have:=Q.rel.eo _ hd;simp only at this;rw[Q.hn]at this;omega
theorem GX:∀(l:List Oper) (k:Nat),oc k l=true->∀j o,l[j]? =some o->∀p∈gL o,p<k+j:=by
 intro l;induction l with
 |nil=>intro k _ j o h;simp at h
 | cons x l ih=>
  intro k h j o hj p hp;simp only[oc,Ab,AE]at h
  cases j with
  |zero=>
   simp only[AA,AL]at hj;subst hj;have:=h.1 p hp;simpa using this
  |succ j=>
   have:=ih (k+1) h.2 j o (by simpa using hj) p hp;omega
end
section
variable {tab:aZ} {D:Nat->Prop} {E:Env} {K:KS} {base:List Frame} {frC:Frame} {csC:List Frame} {w:World}
variable {ops:Array Oper} {fr0:af} {cs:List af} {k:List bm} {lo:Nat} {X:Nat->Prop} {tsR:T AV} {l:List Nat}
theorem Ma {s s':DS} {i:Nat} {o:Oper} {hR:AH} (hf:oJ tab ops fr0.nt i o s= .ok (some s')) (hi:ops[i]? =some o) (hr:gv s.aE i o=true) (H:cU tab ops fr0.nt fr0.tmps lo s X)
  (Q:eA ops fr0 cs k base s X D E K tsR hR l frC csC w):∃hR',eA ops fr0 cs k base s' X D E K tsR hR' l frC csC w:=by
 obtain⟨hnone,_⟩:=nL hr;have hxi:¬X i:=fun h=>by have:=H.cx i h;rw[hnone]at this;cases this
 have hput:∀(v:AV) j oj t,X j->ops[j]? =some oj->oj.dst=some t->(fX fr0.nt s.ts o v).get t=s.ts.get t:=by
  intro v j oj t hx ho hd;rw[jQ,if_neg];rintro⟨h,_⟩;have:=H.uniq j i oj o t (H.cx j hx) ho hi hd h;exact hxi (this▸hx)
 have hsame:∀(v:AV) (s2:DS),s2.ts=fX fr0.nt s.ts o v->s2.h=s.h->s2.ax=s.ax->∃hR',eA ops fr0 cs k base s2 X D E K tsR hR' l frC csC w:=by
  intro v s2 e1 e2 e3;refine⟨_,Q.look H (s':=s2) ?_ (by rw[e2];exact Ah _) (fun i ob=>by rw[e2,e3]) (fun x hx=> .inl (by rw[<-e3];exact hx))⟩;intro j oj t hx ho hd;rw[e1];exact hput v j oj t hx ho hd
 unfold oJ at hf;obtain⟨_,hck,hf1⟩:=ai.1 hf;obtain⟨b,hb,hf2⟩:=ai.1 hf1;clear hf hf1
 cases b with
 |false=>
  simp only[Df,if_true]at hf2
  cases hf2;exact hsame _ _ rfl rfl rfl
 | true =>
  simp only[BH,Ak,Aw]at hf2;split at hf2
  . cases hf2
  . obtain⟨⟨u,h1⟩,hp,hf3⟩:=ai.1 hf2;obtain⟨_,hn,hf4⟩:=ai.1 hf3;obtain⟨ob,hob,hf5⟩:=ai.1 hf4
    cases hf5;refine⟨_,Q.look H (hput u) (by simp) ?_ ?_⟩
    . intro i' ob';simp only;rw[AH.aL];by_cases e:i'=s.h.next
      . subst e;rw[if_pos rfl];constructor
        . rintro⟨_,h2⟩;exact absurd (h2 _ Ao rfl) hxi
        . rintro⟨h1,_⟩;have:=H.hd _ _ h1;omega
      . rw[if_neg e];constructor
        . rintro⟨h1,h2⟩;exact⟨h1,fun x hx e'=>h2 x (An _ hx) e'⟩
        . rintro⟨h1,h2⟩;refine⟨h1,fun x hx e'=>?_⟩;rcases Aj.1 hx with rfl|hx
          . exact absurd e'.symm e
          . exact h2 x hx e'
    . intro x hx;rcases Aj.1 hx with rfl|hx
      . exact .inr (Ah _)
      . exact .inl hx
  . split at hf2
    . rename_i u h1 hm';obtain⟨_,hn,hf3⟩:=ai.1 hf2
      cases hf3;exact hsame _ _ rfl rfl rfl
    . split at hf2
      . rename_i u h1 hp
        cases hf2;exact hsame _ _ rfl rfl rfl
      . cases hf2
theorem ur:∀(l':List Oper) (n:Nat) (s s':DS) (hR:AH),(∀j o,l'[j]? =some o->ops[n+j]? =some o)->jT tab ops fr0.nt n l' s= .ok s'->cU tab ops fr0.nt fr0.tmps lo s X->
  eA ops fr0 cs k base s X D E K tsR hR l frC csC w->∃hR',eA ops fr0 cs k base s' X D E K tsR hR' l frC csC w:=by
 intro l';induction l' with
 |nil=>intro n s s' hR _ h H Q;simp only[jT]at h;cases h;exact⟨hR,Q⟩
 |cons o l' ih=>
  intro n s s' hR hl h H Q;have hl':∀j o',l'[j]? =some o'->ops[n+1+j]? =some o':=by
    intro j o' hj;have:=hl (j+1) o' (by simpa using hj);rw[show n+1+j=n+(j+1)from by omega];exact this
  simp only[jT]at h;by_cases hr:gv s.aE n o=true
  . simp only[hr,A8]at h;obtain⟨x,hx,h1⟩:=ai.1 h
    cases x with
    |none=>exact ih (n+1) s s' hR hl' h1 H Q
    |some s1=>
     have hin:ops[n]? =some o:=by simpa using hl 0 o rfl
     obtain⟨hR1,Q1⟩:=Ma hx hin hr H Q;exact ih (n+1) s1 s' hR1 hl' h1 (zY hx hin hr H) Q1
  . have:gv s.aE n o=false:=by simpa using hr
    simp only[this,AJ]at h;exact ih (n+1) s s' hR hl' h H Q
end
end
section
variable [Inhabited aF]
def dW (listed:Array Bool) (j:Nat):Prop:=listed.getD j false=true
def mC (n:Nat) (listed:Array Bool):Nat:=((List.range n).filter fun i=> !listed.getD i false).length
theorem KG {p q:Nat->Bool} {i:Nat}:∀(l:List Nat),(∀j,q j=true->p j=true)->i∈l->p i=true->q i=false->(l.filter q).length+1<=(l.filter p).length:=by
 intro l;induction l with
 |nil=>intro _ h;cases h
 |cons x l ih=>
  intro hqp hi hp hq;rcases Aj.1 hi with rfl|hi
  . rw[BQ,BQ,if_pos hp,if_neg (by rw[hq];simp),A1];have:(l.filter q).length<=(l.filter p).length:=by
      rw[<-ES,<-ES];exact List.countP_mono_left (fun x _=>hqp x)
    omega
  . have:=ih hqp hi hp hq;rw[BQ,BQ];by_cases h1:q x=true
    . rw[if_pos h1,if_pos (hqp x h1)];simp only[A1];omega
    . rw[if_neg h1];by_cases h2:p x=true
      . rw[if_pos h2];simp only[A1];omega
      . rw[if_neg h2];exact this
theorem vb {listed:Array Bool} {i:Nat} (hi:i<listed.size):dW (listed.setIfInBounds i true)=fun j=>dW listed j\/j=i:=by
 funext j
 apply propext;unfold dW;rw[De,De,Bx];by_cases h:i=j
 . subst h;simp[hi]
 . have:¬j=i:=fun e=>h e.symm
   simp[h,this]
theorem H6 {n:Nat} {listed:Array Bool} {i:Nat} (hi:i<n) (hs:i<listed.size) (hx:¬dW listed i):mC n (listed.setIfInBounds i true)+1<=mC n listed:=by
 refine KG _ ?_ (Ep.2 hi) (by unfold dW at hx;simpa using hx) ?_
 . intro j hj;have h1:¬dW (listed.setIfInBounds i true) j:=by unfold dW;simpa using hj
   rw[vb hs]at h1;have:¬dW listed j:=fun h=>h1 (.inl h)
   unfold dW at this;simpa using this
 . have:dW (listed.setIfInBounds i true) i:=by rw[vb hs];exact .inr rfl
   unfold dW at this;simp[this]
theorem GJ {n:Nat} {listed:Array Bool} (h:mC n listed=0):∀j,j<n->dW listed j:=by
 intro j hj;unfold mC at h;have:=AG h;rw[Ej]at this;have:=this j (Ep.2 hj);unfold dW;simpa using this
end
section
variable [Inhabited aF]
section
variable {P:Program} {tab:aZ} (ok:bw P tab) {sub:FuncId->List AV->AH->R (List (AV×AH))} (hsub:jY P tab sub) (hext:jX P tab)
variable {K:KS} {base:List Frame}
variable {ops:Array Oper} {fr0:af} {cs:List af} {k:List bm} {lo:Nat}
def Fin (P:Program) (fr0:af) (cs:List af) (k:List bm) (base:List Frame) (K:KS) (lo:Nat) (sF:DS) (D:Nat->Prop) (E:Env) (frC:Frame) (csC:List Frame) (w:World):Prop:=
 ∃frC' csC' w' D' E',Steps P (lone frC csC w) (lone frC' csC' w')/\Rel D' E' K {fr:={fr0 with tmps:=sF.ts,todo:=k},cs,h:=sF.h} base frC' csC' w'/\ak D E E'/\(∀i,D i->D' i)/\Kept K w w'/\(∀i,D' i->D i\/lo<=i)/\lo<=sF.h.next
def mF (tab:aZ) (sub:FuncId->List AV->AH->R (List (AV×AH))) (ops:Array Oper) (nt:Nat) (s sF:DS):Prop:=
 (iL s.aE 0 ops.toList=[]/\sF=s)\/ ∃c o n s2,iL s.aE 0 ops.toList=[(c,o)]/\u6 tab sub ops nt c o s= .ok s2/\qp tab sub ops nt n s2= .ok sF
theorem FB {nt n:Nat} {s sF:DS} (h:qp tab sub ops nt n s= .ok sF):∃s1,jT tab ops nt 0 ops.toList s= .ok s1/\mF tab sub ops nt s1 sF:=by
 cases n with
 |zero=>simp only[qp]at h;cases h
 |succ n=>
  simp only[qp]at h;obtain⟨s1,h1,h2⟩:=ai.1 h;refine⟨s1,h1,?_⟩;split at h2
  . rename_i hc;obtain⟨_,_,h3⟩:=ai.1 h2
    cases h3;exact .inl ⟨hc,rfl⟩
  . rename_i c o hc;obtain⟨s2,h3,h4⟩:=ai.1 h2;exact .inr ⟨c,o,n,s2,hc,h3,h4⟩
  . cases h2
include ok hsub hext in
theorem JZ (hm:fr0.mode= .run) (hlt:oc 0 ops.toList=true):∀(fuel t:Nat) (listed:Array Bool) (s sF:DS) (D:Nat->Prop) (E:Env) (tsR:T AV) (hR:AH) (frC:Frame) (csC:List Frame) (w:World),
  listed.size=ops.size->mC ops.size listed<=fuel->mF tab sub ops fr0.nt s sF->cU tab ops fr0.nt fr0.tmps lo s (dW listed)->
  eA ops fr0 cs k base s (dW listed) D E K tsR hR (Region.linearise.go .any ops fuel t listed []) frC csC w->Fin P fr0 cs k base K lo sF D E frC csC w:=by
 have hend:∀(listed:Array Bool) (s sF:DS) (D:Nat->Prop) (E:Env) (tsR:T AV) (hR:AH) (frC:Frame) (csC:List Frame) (w:World),(∀j,j<ops.size->dW listed j)->
    mF tab sub ops fr0.nt s sF->cU tab ops fr0.nt fr0.tmps lo s (dW listed)->eA ops fr0 cs k base s (dW listed) D E K tsR hR [] frC csC w->Fin P fr0 cs k base K lo sF D E frC csC w:=by
  intro listed s sF D E tsR hR frC csC w hall htodo H Q;rcases htodo with⟨_,rfl⟩|⟨c,o,n,s2,hc,_,_⟩
  . have hts:∀t,tsR.get t=sF.ts.get t:=by
      intro t;by_cases hw:∃(j:Nat) (oj:Oper),ops[j]? =some oj/\oj.dst=some t
      . obtain⟨j,oj,h1,h2⟩:=hw;exact Q.nC j oj t (hall j (Ac.1 h1).1) h1 h2
      . rw[Q.nA t (fun j oj _ h1 h2=>hw ⟨j,oj,h1,h2⟩),H.od t (fun j oj _ h1 h2=>hw ⟨j,oj,h1,h2⟩)]
    have hst:∀E',Go.step P (lone (bc E' {fr0 with tmps:=tsR,todo:= .inRegion ops []::k}) csC w)= .next (lone (bc E' {fr0 with tmps:=tsR,todo:=k}) csC w):=
      fun E'=>step_lone_go (by simp[stepG,stepG.exec,bc,hm,fe,dL])
    have hconc:∀E',bc E' {fr0 with tmps:=sF.ts,todo:=k}=bc E' {fr0 with tmps:=tsR,todo:=k}:=by
      intro E';have:gn E' sF.ts fr0.nt=gn E' tsR fr0.nt:=by
        unfold gn tf;simp only[hts]
      simp only[bc,this]
    have hfr:=(Q.rel.all E (ak.refl _ _)).2.1;simp only at hfr;refine⟨bc E {fr0 with tmps:=tsR,todo:=k},csC,w,D,E, .one (by rw[<-hfr];exact hst E),⟨fun E' he=>?_,fun i hi=>?_,?_,Q.rel.wf.2⟩,ak.refl _ _,fun _ h=>h,Kept.refl K w,fun i hi=> .inl hi,H.nx⟩
    . obtain⟨g1,g2,g3⟩:=Q.rel.all E' he;refine⟨g1.same (fun i ob h=>(Q.hr i ob).2 ⟨h,fun x hx _=>?_⟩) (by simp only;rw[Q.hn];exact Ah _),?_,g3⟩
      . obtain⟨o,ho⟩:=H.op _ (H.al x hx).2.1;exact hall _ (Ac.1 ho).1
      . simp only;rw[hconc E'];have h1:=hst E';simp only at g2;rw[g2,<-hfr,hst E]at h1;exact(oO (by simpa using h1)).1.symm
    . have:=Q.rel.eo i hi;simp only at this⊢;rw[Q.hn]at this;exact this
    . intro t ht;have:=Q.rel.wf.1 t ht;simp only at this⊢;rw[<-hts t];exact this
  . have hcm:(c,o)∈iL s.aE 0 ops.toList:=by rw[hc];exact Ao
    obtain⟨j',h1,h2,h3⟩:=Cp _ _ _ _ _ hcm;have hlt':c<ops.size:=by
      have:=(Ad.1 h2).1;simp at this;omega
    have:=H.cx c (hall c hlt');rw[(nL h3).1]at this
    cases this
 intro fuel;induction fuel with
 |zero=>
  intro t listed s sF D E tsR hR frC csC w hsz hu htodo H Q;exact hend listed s sF D E tsR hR frC csC w (GJ (by omega)) htodo H (by simpa [Region.linearise.go]using Q)
 | succ fuel ih=>
  intro t listed s sF D E tsR hR frC csC w hsz hu htodo H Q;simp only[Region.linearise.go]at Q;change eA ops fr0 cs k base s (dW listed) D E K tsR hR (match(Region.ready .any ops listed)[t % (Region.ready .any ops listed).length]? with
    |some i=>Region.linearise.go .any ops fuel (t / (Region.ready .any ops listed).length) (listed.setIfInBounds i true) [i]
    |none=>[].reverse) frC csC w at Q
  have hget:∀j,j<ops.size->(listed.getD j true=false↔¬dW listed j):=by
    intro j hj;unfold dW;have:j<listed.size:=by omega
    simp[Array.getD,this]
  cases hi:(Region.ready .any ops listed)[t % (Region.ready .any ops listed).length]? with
  | none=>
    rw[hi]at Q;have hnil:Region.ready .any ops listed=[]:=by
      cases hr:Region.ready .any ops listed with
      |nil=>rfl
      | cons x xs=>
        rw[hr]at hi;have hlt:t % (x::xs).length<(x::xs).length:=Nat.mod_lt _ (by simp);rw[Ec]at hi;omega
    have hall:∀j,j<ops.size->dW listed j:=by
      intro j;induction j using Nat.strongRecOn with
      | _ j ihj=>
        intro hj;by_cases hx:dW listed j
        . exact hx
        . exfalso;have hm':j∈Region.ready .any ops listed:=by
           rw[mem_ready];refine⟨(hget j hj).2 hx,ops[j],A5 hj,?_⟩;intro e he hb;have hp:e.on∈gL ops[j]:=Ar.2 ⟨e,AB.2 ⟨by simpa using he,hb⟩,rfl⟩;have hlt':=GX ops.toList 0 hlt j ops[j] (by simp[hj]) e.on hp;exact ihj e.on (by omega) (by omega)
          rw[hnil]at hm'
          cases hm'
    exact hend listed s sF D E tsR hR frC csC w hall htodo H Q
  | some i =>
    rw[hi]at Q;simp only at Q;rw[linearise_go_acc,DE,Dr]at Q;obtain⟨hl1,o,ho,hdeps⟩:=mem_ready.1 (BP hi);have hin:i<ops.size:=(Ac.1 ho).1;have hx:=(hget i hin).1 hl1;have hready:∀p∈gL o,dW listed p:=by
      intro p hp;obtain⟨e,he,rfl⟩:=Ar.1 hp;obtain⟨he1,he2⟩:=AB.1 he;exact hdeps e (by simpa using he1) he2
    have hsz':(listed.setIfInBounds i true).size=ops.size:=by simp[hsz]
    have hu':mC ops.size (listed.setIfInBounds i true)<=fuel:=by
      have:=H6 hin (by omega) hx;omega
    have hX':dW (listed.setIfInBounds i true)=fun j=>dW listed j\/j=i:=vb (by omega)
    have hfin:∀(s':DS),mF tab sub ops fr0.nt s' sF->cU tab ops fr0.nt fr0.tmps lo s' (fun j=>dW listed j\/j=i)->
        qG P ops fr0 cs k base s' (fun j=>dW listed j\/j=i) D E K lo (Region.linearise.go .any ops fuel (t / (Region.ready .any ops listed).length) (listed.setIfInBounds i true) []) frC csC w->Fin P fr0 cs k base K lo sF D E frC csC w:=by
      intro s' htd H' hc;obtain⟨tsR',hR',frC',csC',w',D',E',c1,c2,c3,c4,c5,c6⟩:=hc;obtain⟨frF,csF,wF,DF,EF,f1,f2,f3,f4,f5,f6,f7⟩:=ih _ (listed.setIfInBounds i true) s' sF D' E' tsR' hR' frC' csC' w' hsz' hu' htd (by rw[hX'];exact H') (by rw[hX'];exact c2);exact⟨frF,csF,wF,DF,EF,c1.trans f1,f2,c3.trans f3 c4,fun x hx=>f4 x (c4 x hx),c5.trans f5,fun x hx=>(f6 x hx).elim (c6 x) .inr,f7⟩
    by_cases hC:(s.aE.get i).isSome=true
    . exact hfin s htodo (H.rj hC ho hready) (FN ok H Q hm ho hC hx hready)
    . have hr:gv s.aE i o=true:=by
        unfold gv;simp only[Ab,AE];exact⟨by simpa using hC,fun p hp=>H.cx p (hready p hp)⟩
      have hcm:(i,o)∈iL s.aE 0 ops.toList:=by
        have:=GF ops.toList 0 s.aE i o (by simpa using ho) (by simpa using hr);simpa using this
      rcases htodo with⟨hc,_⟩|⟨c,o',n,s2,hc,hd,hloop⟩
      . rw[hc]at hcm;cases hcm
      . rw [hc]at hcm;rcases Aj.1 hcm with e|hcm
        . cases e;obtain⟨H2,tsR',hR',frC',csC',w',D',E',c1,c2,c3,c4,c5,c6⟩:=NJ ok hsub hext H Q hm ho hr hd hready;obtain⟨s3,hpass,htd3⟩:=FB hloop;have hpl:∀j o,ops.toList[j]? =some o->ops[0+j]? =some o:=by
           intro j o hj;simpa using hj
          obtain⟨hR3,Q3⟩:=ur ops.toList 0 s2 s3 hR' hpl hpass H2 c2;exact hfin s3 htd3 (tQ ops.toList 0 s2 s3 hpl hpass H2) ⟨tsR',hR3,frC',csC',w',D',E',c1,Q3,c3,c4,c5,c6⟩
        . cases hcm
end
end
section
variable [Inhabited aF]
section
variable {P:Program} {tab:aZ} (ok:bw P tab) {sub:FuncId->List AV->AH->R (List (AV×AH))} (hsub:jY P tab sub) (hext:jX P tab)
theorem qj (n j:Nat):¬dW (Array.replicate n false) j:=by
 unfold dW;rw[De,Fa];split<;>simp
include ok hsub hext in
theorem xv (hmix:P.follows .mixedOrders=true):yI P tab sub:=by
 intro fr cs h id ops k ts h' hm ht hd D E K base frC csC w hR;unfold draw at hd;obtain⟨_,hlt,hd1⟩:=ai.1 hd;obtain⟨sF,hloop,hd2⟩:=ai.1 hd1
 cases hd2;have hlt:=dK.1 hlt;let s0:DS:={ts:=fr.tmps,h,aE:= .e,reads:=[],ax:=[]}
 let ord:=w.tape w.drawn (.order frC.fn id)
 let l:=Region.linearise.go .any ops ops.size ord (Array.replicate ops.size false) []
 have hstep:∀E',ak D E E'->Go.step P (lone frC csC w)= .next (lone (bc E' {fr with tmps:=fr.tmps,todo:= .inRegion ops l::k}) csC w.drew):=by
  intro E' he;have e1:=(hR.all E' he).2.1;simp only at e1;refine step_lone_go ?_;have hmC:frC.mode= .run:=by rw[<-e1];simp[bc,hm,fe]
  have htC:frC.todo= .code (.region id ops true)::k.map (dL E'):=by rw[<-e1];simp[bc,ht,dL]
  have hrun:(choose (.order frC.fn id)).run P w= .ok ord w.drew:=by
    simp only[choose,Sem.run,Question.forced,Ak,Aw,Question.cut];rfl
  have hsch:Region.schedule (P.follows .mixedOrders) ops ord=l:=by
    simp only[Region.schedule,hmix,D5,if_true];rfl
  have hgoal:bc E' {fr with tmps:=fr.tmps,todo:= .inRegion ops l::k}={frC with todo:= .inRegion ops l::k.map (dL E')}:=by
    rw[<-e1];rfl
  rw[hgoal];unfold stepG stepG.exec;simp only[hmC,htC,BH,Ak,Aw,hrun,hsch,GStep.bare_go]
 have hdom:=(hR.all E (ak.refl _ _)).1.eo;have H0:cU tab ops fr.nt fr.tmps h.next s0 (dW (Array.replicate ops.size false)):=by
  have hnone:∀j,s0.aE.get j=none:=fun _=>rfl
  refine⟨fun j hj=>absurd hj (qj _ _),fun j a hj=>absurd hj (qj _ _),?_,?_,?_,fun _ _=>rfl,?_,fun x hx=>(by cases hx),Ah _,hR.wf.1,fun x hx=>(by cases hx),hdom⟩
  . intro j hj;rw[hnone]at hj;cases hj
  . intro j a o hj;rw[hnone]at hj;cases hj
  . intro i j oi oj d hi;rw[hnone]at hi;cases hi
  . intro j hj;rw[hnone]at hj;cases hj
 have Q0:eA ops fr cs k base s0 (dW (Array.replicate ops.size false)) D E K fr.tmps h l (bc E {fr with tmps:=fr.tmps,todo:= .inRegion ops l::k}) csC w.drew:=by
  refine⟨⟨fun E' he=>?_,hR.eo,hR.wf⟩,fun i ob=>⟨fun h=>⟨h,fun x hx=>(by cases hx)⟩,fun h=>h.1⟩,rfl,fun j o t hx=>absurd hx (qj _ _),fun _ _=>rfl,fun x hx=>by cases hx⟩;obtain⟨g1,g2,g3⟩:=hR.all E' he;refine⟨g1.drew,?_,g3⟩;have h1:=hstep E' he;rw[hstep E (ak.refl _ _)]at h1;exact(oO (by simpa using h1)).1.symm
 obtain⟨s1,hpass,htodo⟩:=FB hloop;have hpl:∀j o,ops.toList[j]? =some o->ops[0+j]? =some o:=by
  intro j o hj;simpa using hj
 obtain⟨hR1,Q1⟩:=ur ops.toList 0 s0 s1 h hpl hpass H0 Q0;have H1:=tQ ops.toList 0 s0 s1 hpl hpass H0;obtain⟨frC',csC',w',D',E',f1,f2,f3,f4,f5,f6,f7⟩:=JZ ok hsub hext hm hlt ops.size ord (Array.replicate ops.size false) s1 sF D E fr.tmps hR1 _ csC w.drew (by simp)
  (by unfold mC;have:=A7 (fun i=> !(Array.replicate ops.size false).getD i false) (List.range ops.size);simpa using this) htodo H1 Q1
 exact⟨frC',csC',w',E',D',Steps.head (hstep E (ak.refl _ _)) f1,f2,f3,f4,(Kept.drew K w).trans f5,f7,f6⟩
end
end
section
variable [Inhabited aF]
def nq (tag:Nat) (fn:Func):Array Value->Sem Value:=
 match tag with
 |1=>Extern.BytealgCompare.compare
 |2=>Extern.AbiNoEscape.same
 |3=>Extern.BytealgMakeNoZero.makeNoZero fn.params fn.resultTypes
 |5=>Extern.BytealgIndexByte.indexByte
 |_=>Extern.SlicesOverlaps.overlaps fn.params fn.resultTypes
def fP (P:Program) (tab:aZ):Prop:=∀f tag fn,tab.ext.get f=some tag->tab.fns.get f=some fn->Extern.findNext fn=none/\Extern.find fn=some (nq tag fn)
theorem PY (ps rs:Array TypeId) (n:Int):Extern.BytealgMakeNoZero.makeNoZero ps rs #[.int .i64 n]=(do
 let some t:=rs[0]? |stuck "bytealg.MakeNoZero: no result type"
 let .slice elem<-underlying t|stuck "bytealg.MakeNoZero: slice type expected"
 if n<0||n>2 ^ 48 then runtimePanic (.error "makeslice: len out of range")
 let cap<-choose (.appendCap n.toNat 0 elem)
 askRoom cap
 let bytes<-choose (.extern "internal/bytealg.MakeNoZero.bytes" 0)
 let a<-Go.newRow elem (Extern.BytealgMakeNoZero.digits cap bytes #[])
 pure (.slice (some a) n.toNat cap)):=rfl
theorem IG (ps rs:Array TypeId) (a b:Option Addr) (la lb ca cb:Nat):Extern.SlicesOverlaps.overlaps ps rs #[.slice a la ca, .slice b lb cb]=(do
 let some t:=ps[0]? |stuck "slices.overlaps: no parameter types"
 let .slice elem<-underlying t|stuck "slices.overlaps: slice type expected"
 let size<-sizeOf elem
 match a,b with
 | some a,some b=>
  if la=0\/lb=0\/size=0 then pure (.bool false)
  else if a.block !=b.block&&(<-Go.frozen a)&&(<-Go.frozen b)then unsupported .addressObserved
  else do
   if a.block !=b.block then do
    noView a;noView b
    if<-mayBeOne a b then return .bool ((<-choose (.extern "sameAddr.stringBytes" 2))==1)
   pure (.bool (a.block==b.block&&a.off<b.off+lb*size&&b.off<a.off+la*size))
 |_,_=>pure (.bool false)):=rfl
theorem Qh (b c:Value):Extern.BytealgIndexByte.indexByte #[b,c]=(do
 let b<-Extern.Bytes.bytesOf b
 let c<-Extern.Bytes.asByte c
 match(List.range b.size).find? fun i=>b[i]! ==c with
 |some i=>pure (Go.goInt i)
 |none=>pure (Go.goInt (-1))):=rfl
theorem KW:∀(n t:Nat) (acc:Array Value),(Extern.BytealgMakeNoZero.digits n t acc).size=acc.size+n:=by
 intro n;induction n with
 |zero=>intro t acc;rfl
 |succ n ih=>intro t acc;simp only[Extern.BytealgMakeNoZero.digits,ih,Da];omega
section
variable {P:Program} {tab:aZ} (ok:bw P tab) (het:fP P tab)
include ok het
theorem Qf : jX P tab:=by
 intro f fn args h v h' hfn hb hx w;have hP:=ok.fns f fn hfn;unfold uH at hx;split at hx
 . rename_i tag htag;obtain⟨hn,he⟩:=het f tag fn htag hfn;have hrun:∀a (w:World),(callFunc f a).run P w=((nq tag fn a).run P w).andThen fun v w'=> .ok (.value v) w':=fun a w=>run_callFunc_extern hP (ok.tD f fn hfn) (by rw[hb];rfl) hn he a w
   unfold extern at hx;split at hx
   . cases hx;refine⟨(0,0),fun E K H _=>⟨by omega,w,?_,H,Kept.refl K w⟩⟩;rw[hrun];rfl
   . cases hx;refine⟨(0,0),fun E K H _=>⟨by omega,w,?_,H,Kept.refl K w⟩⟩;rw[hrun];rfl
   ·
     rename_i n;obtain⟨t,ht,hx1⟩:=ai.1 hx;obtain⟨d,hd,hx2⟩:=ai.1 hx1;have hPt:=ok.und t d (cE.1 hd);have ht:=cE.1 ht;split at hx2
     . rename_i e;obtain⟨z,hz,hx2'⟩:=ai.1 hx2;obtain⟨_,hle,hx3⟩:=ai.1 hx2';obtain⟨⟨h1,b⟩,hrow,hx4⟩:=ai.1 hx3
       cases hx4;have hle:=dK.1 hle;simp only[Ab]at hle;have hz1:=Af hle.2;have hle:=Al hle.1;subst hz1;obtain⟨sz,hsz,rfl,rfl⟩:=gP hrow;rw[hz]at hsz
       cases hsz;refine⟨(w.heap.size,grownCap w n 0 e),fun E K H hE=>?_⟩;obtain⟨hE1,hE2⟩:=hE (by simp);simp only at hE1 hE2;refine⟨by simp,w.drew.drew.alloc (.cells (Extern.BytealgMakeNoZero.digits (grownCap w n 0 e) ((Question.extern "internal/bytealg.MakeNoZero.bytes" 0).cut (w.drew.tape w.drew.drawn (.extern "internal/bytealg.MakeNoZero.bytes" 0))) #[]) e),?_,?_,?_⟩
       . rw[hrun];have h1:¬((n:Int)<0):=by omega
         have h2:¬((n:Int)>2 ^ 48):=by
           have:(2:Int) ^ 48=281474976710656:=by decide
           rw[this];omega
         have hq:(Question.appendCap n 0 e).cut (w.tape w.drawn (.appendCap n 0 e))=grownCap w n 0 e:=rfl;have hor:((decide ((n:Int)<0))||(decide ((n:Int)>2 ^ 48)))=false:=by rw[Bu h1,Bu h2];rfl
         show(((Extern.BytealgMakeNoZero.makeNoZero fn.params fn.resultTypes #[.int .i64 (n:Int)]).run P w).andThen fun v w'=> .ok (Next.value v) w')=_
         rw[PY];simp only[ht,Sem.run_bind,underlying,run_program,Result.andThen_ok,hPt,Sem.run_pure,hor,Ak,Aw,run_choose,Question.forced,DJ,hq,World.drew_eq,run_askRoom,oF];simp[ab,fD.val,hE1,hE2]
       . exact H.drew.drew.new (by simpa using hE1) ⟨_,_,rfl,⟨_,rfl⟩,by simp[KW,hE2],rfl⟩
       . exact((Kept.drew K w).trans (Kept.drew K w.drew)).trans (Kept.alloc (by simpa using H.kb) _)
     . cases hx2
   ·
     rename_i x y;obtain⟨t,ht,hx1⟩:=ai.1 hx;obtain⟨d,hd,hx2⟩:=ai.1 hx1;have hPt:=ok.und t d (cE.1 hd);have ht:=cE.1 ht;split at hx2
     . rename_i e;obtain⟨sz,hsz,hx3⟩:=ai.1 hx2;obtain⟨_,hck,hx4⟩:=ai.1 hx3;clear hx hx1 hx2 hx3;have hs0:sz≠0:=by
         intro e;subst e;simp[R.check]at hck
       have hnone:∀(E:Env) (a b:Option Addr) (la lb ca cb:Nat),(a=none\/b=none)->((nq 4 fn #[.slice a la ca, .slice b lb cb]).run P w)= .ok (.bool false) w:=by
         intro E a b la lb ca cb hab;show(Extern.SlicesOverlaps.overlaps fn.params fn.resultTypes #[.slice a la ca, .slice b lb cb]).run P w=_
         rw[IG];simp only[ht,Sem.run_bind,underlying,run_program,Result.andThen_ok,hPt,Sem.run_pure,jw ok hsz];rcases hab with rfl|rfl
         . rfl
         . cases a<;>rfl
       split at hx4
       . cases hx4;refine⟨(0,0),fun E K H _=>⟨by omega,w,?_,H,Kept.refl K w⟩⟩;rw[hrun];simp only[bA,dZ,ab];rw[hnone E _ _ _ _ _ _ (.inl rfl)];rfl
       . cases hx4;refine⟨(0,0),fun E K H _=>⟨by omega,w,?_,H,Kept.refl K w⟩⟩;rw[hrun];simp only[bA,dZ,ab];rw[hnone E _ _ _ _ _ _ (.inl rfl)];rfl
       . cases hx4;refine⟨(0,0),fun E K H _=>⟨by omega,w,?_,H,Kept.refl K w⟩⟩;rw[hrun];simp only[bA,dZ,ab];rw[hnone E _ _ _ _ _ _ (.inr rfl)];rfl
       . rename_i a i n ca b j m cb;split at hx4
         . rename_i ha hb';have hsame:h'=h:=by
            cases hc:(Nat.beq n 0||Nat.beq m 0)<;>rw[hc]at hx4<;>cases hx4<;>rfl
           subst hsame;refine⟨(0,0),fun E K H _=>⟨by omega,w,?_,H,Kept.refl K w⟩⟩;rw[hrun];simp only[bA,dZ,ab];have hgo:((nq 4 fn #[.slice (some ⟨E.aQ a,i,none⟩) n (ca.val (E.cap a)), .slice (some ⟨E.aQ b,j,none⟩) m (cb.val (E.cap b))]).run P w)= .ok (ab E v) w:=by
            show(Extern.SlicesOverlaps.overlaps fn.params fn.resultTypes #[.slice (some ⟨E.aQ a,i,none⟩) n (ca.val (E.cap a)), .slice (some ⟨E.aQ b,j,none⟩) m (cb.val (E.cap b))]).run P w=_
            rw[IG];simp only[ht,Sem.run_bind,underlying,run_program,Result.andThen_ok,hPt,Sem.run_pure,jw ok hsz];by_cases hz:n=0\/m=0
            . rw[if_pos (by rcases hz with h|h<;>simp[h])];have:(Nat.beq n 0||Nat.beq m 0)=true:=by
                rcases hz with rfl|rfl<;>simp
              rw[this]at hx4
              cases hx4;rfl
            . rw[if_neg (by omega)];have h1:Nat.beq n 0=false:=by
                cases hb:Nat.beq n 0
                . rfl
                . exact absurd (.inl (Af hb)) hz
              have h2:Nat.beq m 0=false:=by
                cases hb:Nat.beq m 0
                . rfl
                . exact absurd (.inr (Af hb)) hz
              rw[h1,h2]at hx4
              cases hx4;have hfa:=uw H ha i;have hfb:=uw H hb' j;have hfrz:(Go.frozen ⟨E.aQ a,i,none⟩).run P w= .ok false w:=by simp[Go.frozen,Sem.run,hfa]
              by_cases hab:a=b
              . subst hab;simp[ab];congr 1<;>(rw[A4];simp)
              . have hne:E.aQ a≠E.aQ b:=fun e=>hab (H.inj a b _ _ ha hb' (by simp[AO.ro]) e)
                have hb0:Nat.beq a b=false:=by
                  cases hb:Nat.beq a b
                  . rfl
                  . exact absurd (Af hb) hab
                simp[ab,hne,hb0,hfrz,ug H ha,ug H hb',Cb H ha hb']
           rw[hgo];rfl
         . cases hx4
       . cases hx4
     . cases hx2
   ·
     rename_i a c
     cases hx;refine⟨(0,0),fun E K H _=>⟨by omega,w,?_,H,Kept.refl K w⟩⟩;rw[hrun];have hgo:(nq 5 fn #[.string ⟨a.toArray⟩, .int .u8 c]).run P w= .ok (.int .i64 (yK ⟨a.toArray⟩ c.toNat.toUInt8)) w:=by
       show(Extern.BytealgIndexByte.indexByte #[.string ⟨a.toArray⟩, .int .u8 c]).run P w=_
       rw[Qh];unfold yK;simp only[Extern.Bytes.bytesOf,Extern.Bytes.asByte,Sem.run_bind,Sem.run_pure,Result.andThen_ok];generalize List.find? (fun i=>(ByteArray.mk a.toArray)[i]! ==c.toNat.toUInt8) (List.range (ByteArray.mk a.toArray).size)=r
       cases r<;>rfl
     simp only[bA,dZ,ab];rw[hgo];rfl
   . cases hx
 . cases hx
end
end
def T.dg {α:Type}:(Nat->Option α)->T α->T α
 |_, .e=> .e
 |f, .n v l r=> .n (match v with|none=>none|some _=>f 0) (T.dg (fun k=>f (2*k+1)) l) (T.dg (fun k=>f (2*k+2)) r)
def T.all {α:Type} (p:α->Bool):T α->Bool
 | .e=>true
 | .n v l r=>(match v with|none=>true|some a=>p a)&&T.all p l&&T.all p r
theorem js {α:Type}:∀(t:T α) (f:Nat->Option α),T.dg f t=t->∀k v,t.get k=some v->f k=some v:=by
 intro t;induction t with
 |e=>intro f _ k v h;simp[iQ]at h
 |n x l r ihl ihr=>
  intro f h k v hk;simp only[T.dg,T.n.injEq]at h;obtain⟨h1,h2,h3⟩:=h;rw[ju]at hk;split at hk
  . rename_i h0;subst h0;subst hk;exact h1
  . split at hk
    . have:=ihl _ h2 _ _ hk;rw[show 2*(k / 2)+1=k from by omega]at this;exact this
    . have:=ihr _ h3 _ _ hk;rw[show 2*(k / 2 - 1)+2=k from by omega]at this;exact this
theorem Tz {α:Type} {p:α->Bool}:∀(t:T α),T.all p t=true->∀k v,t.get k=some v->p v=true:=by
 intro t;induction t with
 |e=>intro _ k v h;simp[iQ]at h
 |n x l r ihl ihr=>
  intro h k v hk;simp only[T.all,Ab]at h;obtain⟨⟨h1,h2⟩,h3⟩:=h;rw[ju]at hk;split at hk
  . subst hk;exact h1
  . split at hk
    . exact ihl h2 _ _ hk
    . exact ihr h3 _ _ hk
theorem bw.of {P:Program} {tab:aZ} (h1:tab.und.dg P.underlying=tab.und) (h2:tab.siz.dg (fun t=>(P.info? t).map (·.size))=tab.siz) (h3:tab.byt.dg (fun t=>(P.info? t).map (·.bytes))=tab.byt)
   (h4:tab.j3.dg (fun t=>((P.info? t).bind (·.zero)).map oW)=tab.j3) (h5:tab.agg.dg (fun t=>(P.underlying t).map yZ)=tab.agg) (h6:tab.held.dg (fun t=>some (P.stoodInHeld t))=tab.held)
   (h7:tab.ka.dg (fun t=>some (P.eqGuardType P.depth t))=tab.ka) (h8:tab.fns.dg (fun f=>P.funcs[f]?)=tab.fns) (h9:tab.fns.all (fun fn=> !(fn.name== "runtime.NumGoroutine"))=true):bw P tab:=by
 refine⟨js _ _ h1,?_,?_,?_,?_,?_,?_,js _ _ h8,?_⟩
 . intro t n h;have:=js _ _ h2 t n h;simpa [Ap]using this
 . intro t n h;have:=js _ _ h3 t n h;simpa [Ap]using this
 . intro t z h;have:=js _ _ h4 t z h;simp only[Ap,Ei]at this;obtain⟨v,⟨i,hi,hv⟩,rfl⟩:=this;exact⟨i,hi,fun E=>by rw[zW];exact hv⟩
 . intro t b h;have:=js _ _ h5 t b h;simpa [Ap]using this
 . intro t b h;have:=js _ _ h6 t b h;simpa using this
 . intro t b h;have:=js _ _ h7 t b h;simpa using this
 . intro f fn h;have:=Tz _ h9 f fn h;simpa using this
theorem fP.of {P:Program} {tab:aZ} (l:List (Nat×Nat)) (hl:∀f tag,tab.ext.get f=some tag->(f,tag)∈l) (hf:∀x∈l,∀fn,tab.fns.get x.1=some fn->Extern.findNext fn=none/\Extern.find fn=some (nq x.2 fn)):fP P tab:=
 fun f tag fn h1 h2=>hf (f,tag) (hl f tag h1) fn h2
def eV:AH:={t:= .e,next:=0}
theorem Hj (E:Env) (K:KS) (w:World) (hK:∀b,K b->b<w.heap.size) (hk0:∀b,b<K.b->K b):bn E eV K w:=by
 have h0:∀i,eV.get i=none:=fun i=>rfl
 refine⟨fun i o h=>?_,fun i o h=>?_,fun i j oi oj h=>?_,fun i o h=>?_,hK,fun i o h=>?_,hk0⟩<;>(rw[h0]at h;cases h)
def qX:List (Nat×Nat)->T Nat
 |[]=> .e
 |(f,t)::l=>(qX l).set f (some t)
theorem Ms:∀(l:List (Nat×Nat)) (f tag:Nat),(qX l).get f=some tag->(f,tag)∈l:=by
 intro l;induction l with
 |nil=>intro f tag h;simp[qX,iQ]at h
 |cons x l ih=>
  intro f tag h;obtain⟨a,b⟩:=x;simp only[qX,T.aS]at h;split at h
  . rename_i e;subst e
    cases h;exact Ao
  . exact An _ (ih f tag h)
theorem Td {P:Program} {tab:aZ} (l:List (Nat×Nat)) (hl:tab.ext=qX l) (hf:∀x∈l,∃fn,tab.fns.get x.1=some fn/\Extern.findNext fn=none/\Extern.find fn=some (nq x.2 fn)):fP P tab:=
 fP.of l (fun f tag h=>Ms l f tag (by rw[<-hl];exact h)) (fun x hx fn h=>by
  obtain⟨fn',h1,h2⟩:=hf x hx;rw[h1]at h
  cases h;exact h2)
end Go.Am
namespace Go.Proofs
open Go.Am
open Tryz
def nd {α:Type} (x:α) (l r:T α):T α:= .n (some x) l r
def lf {α:Type} (x:α):T α:= .n (some x) .e .e
noncomputable def Se:T TypeDesc:=(nd t0.desc (nd t1.desc (nd t3.desc (nd t7.desc (.n none .e (nd t47.desc .e (.n none .e (lf t239.desc)))) (nd t23.desc (nd t38.desc (.n none .e (lf t199.desc)) .e) (.n none (.n none .e (lf t215.desc)) .e))) (.n none (.n none (nd t34.desc .e (lf t99.desc)) (.n none (.n none (lf t147.desc) .e) .e)) (nd t27.desc (nd t43.desc .e (.n none .e (lf t217.desc))) (.n none .e (nd t123.desc (lf t187.desc) (lf t251.desc)))))) (nd t5.desc (nd t9.desc (.n none (lf t32.desc) .e) (.n none (nd t41.desc .e (lf t104.desc)) (.n none (.n none .e (lf t217.desc)) .e))) (.n none (.n none (nd t36.desc (.n none .e (lf t197.desc)) (lf t101.desc)) (.n none (.n none (lf t148.desc) .e) .e)) (nd t3.desc (nd t44.desc (.n none .e (lf t204.desc)) .e) .e)))) (nd t2.desc (nd t4.desc (.n none (.n none (nd t32.desc (lf t64.desc) (.n none (lf t160.desc) .e)) (nd t47.desc (.n none .e (lf t3.desc)) .e)) (nd t23.desc (nd t40.desc .e (lf t104.desc)) .e)) (.n none (.n none (nd t36.desc .e (lf t100.desc)) (nd t52.desc (.n none (lf t148.desc) .e) .e)) (.n none (nd t44.desc (.n none .e (lf t204.desc)) .e) (.n none .e (lf t123.desc))))) (nd t5.desc (.n none (.n none (nd t34.desc .e (.n none (lf t162.desc) .e)) .e) (.n none (nd t41.desc (.n none .e (lf t202.desc)) (lf t106.desc)) (.n none .e (lf t122.desc)))) (.n none (nd t22.desc (nd t38.desc (lf t70.desc) (lf t102.desc)) .e) (.n none .e (.n none .e (lf t34.desc)))))))
noncomputable def Sd:T Nat:=(nd 1 (nd 1 (nd 1 (nd 4 (.n none .e (nd 11 .e (.n none .e (lf 1)))) (nd 3 (nd 8 (.n none .e (lf 1)) .e) (.n none (.n none .e (lf 1)) .e))) (.n none (.n none (nd 3 .e (lf 1)) (.n none (.n none (lf 1) .e) .e)) (nd 1 (nd 1 .e (.n none .e (lf 1))) (.n none .e (nd 13 (lf 1) (lf 1)))))) (nd 1 (nd 1 (.n none (lf 2) .e) (.n none (nd 19 .e (lf 4)) (.n none (.n none .e (lf 1)) .e))) (.n none (.n none (nd 3 (.n none .e (lf 1)) (lf 1)) (.n none (.n none (lf 1) .e) .e)) (nd 1 (nd 3 (.n none .e (lf 1)) .e) .e)))) (nd 1 (nd 1 (.n none (.n none (nd 2 (lf 1) (.n none (lf 1) .e)) (nd 11 (.n none .e (lf 1)) .e)) (nd 3 (nd 1 .e (lf 4)) .e)) (.n none (.n none (nd 3 .e (lf 1)) (nd 1 (.n none (lf 1) .e) .e)) (.n none (nd 3 (.n none .e (lf 1)) .e) (.n none .e (lf 13))))) (nd 1 (.n none (.n none (nd 3 .e (.n none (lf 1) .e)) .e) (.n none (nd 19 (.n none .e (lf 1)) (lf 1)) (.n none .e (lf 1)))) (.n none (nd 1 (nd 8 (lf 1) (lf 1)) .e) (.n none .e (.n none .e (lf 3)))))))
noncomputable def R9:T Nat:=(nd 0 (nd 8 (nd 8 (nd 24 (.n none .e (nd 96 .e (.n none .e (lf 8)))) (nd 48 (nd 48 (.n none .e (lf 24)) .e) (.n none (.n none .e (lf 4)) .e))) (.n none (.n none (nd 24 .e (lf 8)) (.n none (.n none (lf 8) .e) .e)) (nd 8 (nd 24 .e (.n none .e (lf 8))) (.n none .e (nd 128 (lf 8) (lf 8)))))) (nd 1 (nd 16 (.n none (lf 16) .e) (.n none (nd 176 .e (lf 32)) (.n none (.n none .e (lf 8)) .e))) (.n none (.n none (nd 24 (.n none .e (lf 8)) (lf 8)) (.n none (.n none (lf 8) .e) .e)) (nd 8 (nd 72 (.n none .e (lf 8)) .e) .e)))) (nd 8 (nd 1 (.n none (.n none (nd 16 (lf 24) (.n none (lf 24) .e)) (nd 96 (.n none .e (lf 8)) .e)) (nd 48 (nd 24 .e (lf 32)) .e)) (.n none (.n none (nd 24 .e (lf 8)) (nd 24 (.n none (lf 8) .e) .e)) (.n none (nd 72 (.n none .e (lf 8)) .e) (.n none .e (lf 128))))) (nd 1 (.n none (.n none (nd 24 .e (.n none (lf 8) .e)) .e) (.n none (nd 176 (.n none .e (lf 24)) (lf 8)) (.n none .e (lf 8)))) (.n none (nd 24 (nd 48 (lf 24) (lf 8)) .e) (.n none .e (.n none .e (lf 24)))))))
noncomputable def Sf:T AV:=(nd (.bj []) (nd (.bB) (nd (.int .i64 0) (nd (.agg [.int .i64 0, .int .i64 0, .bool false, .int .u8 0]) (.n none .e (nd (.agg [.str [], .str [], .str [], .str [], .bool false, .bool false, .bool false, .bool false, .int .i64 0, .int .i64 0, .int .i64 0]) .e (.n none .e (lf (.aW))))) (nd (.agg [.str [], .str [], .str []]) (nd (.agg [.str [], .bool false, .bool false, .bool false, .bool false, .int .i64 0, .int .i64 0, .int .i64 0]) (.n none .e (lf (.nils))) .e) (.n none (.n none .e (lf (.int .u32 0))) .e))) (.n none (.n none (nd (.agg [.int .i64 0, .int .i64 0, .int .i64 0]) .e (lf (.bh))) (.n none (.n none (lf (.bh)) .e) .e)) (nd (.aW) (nd (.nils) .e (.n none .e (lf (.int .u64 0)))) (.n none .e (nd (.agg [.int .i64 0, .str [], .str [], .str [], .str [], .bool false, .bool false, .bool false, .bool false, .int .i64 0, .int .i64 0, .int .i64 0, .nils]) (lf (.int .u64 0)) (lf (.aW))))))) (nd (.int .u8 0) (nd (.str []) (.n none (lf (.agg [.int .i64 0, .int .i64 0])) .e) (.n none (nd (.agg [.int .i64 0, .int .i64 0, .int .i64 0, .int .i64 0, .int .i64 0, .int .i64 0, .int .i64 0, .str [], .str [], .str [], .str [], .bool false, .bool false, .bool false, .bool false, .int .i64 0, .int .i64 0, .int .i64 0, .nils]) .e (lf (.agg [.bh, .bh, .bh, .aW]))) (.n none (.n none .e (lf (.int .u64 0))) .e))) (.n none (.n none (nd (.agg [.int .i64 0, .int .i64 0, .int .i64 0]) (.n none .e (lf (.bB))) (lf (.bh))) (.n none (.n none (lf (.agg [.bh])) .e) .e)) (nd (.int .i64 0) (nd (.agg [.nils, .nils, .nils]) (.n none .e (lf (.bB))) .e) .e)))) (nd (.int .i64 0) (nd (.bool false) (.n none (.n none (nd (.agg [.int .i64 0, .int .i64 0]) (lf (.nils)) (.n none (lf (.nils)) .e)) (nd (.agg [.str [], .str [], .str [], .str [], .bool false, .bool false, .bool false, .bool false, .int .i64 0, .int .i64 0, .int .i64 0]) (.n none .e (lf (.int .i64 0))) .e)) (nd (.agg [.str [], .str [], .str []]) (nd (.nils) .e (lf (.agg [.bh, .bh, .bh, .aW]))) .e)) (.n none (.n none (nd (.agg [.int .i64 0, .int .i64 0, .int .i64 0]) .e (lf (.bh))) (nd (.nils) (.n none (lf (.agg [.bh])) .e) .e)) (.n none (nd (.agg [.nils, .nils, .nils]) (.n none .e (lf (.bB))) .e) (.n none .e (lf (.agg [.int .i64 0, .str [], .str [], .str [], .str [], .bool false, .bool false, .bool false, .bool false, .int .i64 0, .int .i64 0, .int .i64 0, .nils])))))) (nd (.int .u8 0) (.n none (.n none (nd (.agg [.int .i64 0, .int .i64 0, .int .i64 0]) .e (.n none (lf (.bB)) .e)) .e) (.n none (nd (.agg [.int .i64 0, .int .i64 0, .int .i64 0, .int .i64 0, .int .i64 0, .int .i64 0, .int .i64 0, .str [], .str [], .str [], .str [], .bool false, .bool false, .bool false, .bool false, .int .i64 0, .int .i64 0, .int .i64 0, .nils]) (.n none .e (lf (.nils))) (lf (.bB))) (.n none .e (lf (.bB))))) (.n none (nd (.nils) (nd (.agg [.str [], .bool false, .bool false, .bool false, .bool false, .int .i64 0, .int .i64 0, .int .i64 0]) (lf (.nils)) (lf (.aW))) .e) (.n none .e (.n none .e (lf (.agg [.int .i64 0, .int .i64 0, .int .i64 0]))))))))
noncomputable def R8:T Bool:=(nd false (nd false (nd false (nd true (.n none .e (nd true .e (.n none .e (lf false)))) (nd true (nd true (.n none .e (lf false)) .e) (.n none (.n none .e (lf false)) .e))) (.n none (.n none (nd true .e (lf false)) (.n none (.n none (lf false) .e) .e)) (nd false (nd false .e (.n none .e (lf false))) (.n none .e (nd true (lf false) (lf false)))))) (nd false (nd false (.n none (lf true) .e) (.n none (nd true .e (lf true)) (.n none (.n none .e (lf false)) .e))) (.n none (.n none (nd true (.n none .e (lf false)) (lf false)) (.n none (.n none (lf true) .e) .e)) (nd false (nd true (.n none .e (lf false)) .e) .e)))) (nd false (nd false (.n none (.n none (nd true (lf false) (.n none (lf false) .e)) (nd true (.n none .e (lf false)) .e)) (nd true (nd false .e (lf true)) .e)) (.n none (.n none (nd true .e (lf false)) (nd false (.n none (lf true) .e) .e)) (.n none (nd true (.n none .e (lf false)) .e) (.n none .e (lf true))))) (nd false (.n none (.n none (nd true .e (.n none (lf false) .e)) .e) (.n none (nd true (.n none .e (lf false)) (lf false)) (.n none .e (lf false)))) (.n none (nd false (nd true (lf false) (lf false)) .e) (.n none .e (.n none .e (lf true)))))))
noncomputable def Sv:T Bool:=(nd false (nd false (nd false (nd false (.n none .e (nd false .e (.n none .e (lf false)))) (nd false (nd false (.n none .e (lf false)) .e) (.n none (.n none .e (lf false)) .e))) (.n none (.n none (nd false .e (lf false)) (.n none (.n none (lf false) .e) .e)) (nd false (nd false .e (.n none .e (lf false))) (.n none .e (nd false (lf false) (lf false)))))) (nd false (nd false (.n none (lf false) .e) (.n none (nd false .e (lf false)) (.n none (.n none .e (lf false)) .e))) (.n none (.n none (nd false (.n none .e (lf false)) (lf false)) (.n none (.n none (lf false) .e) .e)) (nd false (nd false (.n none .e (lf false)) .e) .e)))) (nd false (nd false (.n none (.n none (nd false (lf false) (.n none (lf false) .e)) (nd false (.n none .e (lf false)) .e)) (nd false (nd false .e (lf false)) .e)) (.n none (.n none (nd false .e (lf false)) (nd false (.n none (lf false) .e) .e)) (.n none (nd false (.n none .e (lf false)) .e) (.n none .e (lf false))))) (nd false (.n none (.n none (nd false .e (.n none (lf false) .e)) .e) (.n none (nd false (.n none .e (lf false)) (lf false)) (.n none .e (lf false)))) (.n none (nd false (nd false (lf false) (lf false)) .e) (.n none .e (.n none .e (lf false)))))))
noncomputable def Sc:T Bool:=(nd false (nd false (nd false (nd false (.n none .e (nd false .e (.n none .e (lf false)))) (nd false (nd false (.n none .e (lf false)) .e) (.n none (.n none .e (lf false)) .e))) (.n none (.n none (nd false .e (lf false)) (.n none (.n none (lf false) .e) .e)) (nd false (nd false .e (.n none .e (lf false))) (.n none .e (nd false (lf false) (lf false)))))) (nd false (nd false (.n none (lf false) .e) (.n none (nd false .e (lf false)) (.n none (.n none .e (lf false)) .e))) (.n none (.n none (nd false (.n none .e (lf false)) (lf false)) (.n none (.n none (lf false) .e) .e)) (nd false (nd false (.n none .e (lf false)) .e) .e)))) (nd false (nd false (.n none (.n none (nd false (lf false) (.n none (lf false) .e)) (nd false (.n none .e (lf false)) .e)) (nd false (nd false .e (lf false)) .e)) (.n none (.n none (nd false .e (lf false)) (nd false (.n none (lf false) .e) .e)) (.n none (nd false (.n none .e (lf false)) .e) (.n none .e (lf false))))) (nd false (.n none (.n none (nd false .e (.n none (lf false) .e)) .e) (.n none (nd false (.n none .e (lf false)) (lf false)) (.n none .e (lf false)))) (.n none (nd false (nd false (lf false) (lf false)) .e) (.n none .e (.n none .e (lf false)))))))
noncomputable def Sb:T Func:=(.n none (.n none (.n none (.n none (nd f15 (nd f31 (nd f63 (.n none (lf f255) .e) (lf f191)) (.n none (lf f159) (lf f223))) (.n none (nd f79 (lf f143) (lf f207)) (nd f111 (lf f175) .e))) (nd f23 (.n none (nd f71 (nd f135 (lf f263) .e) .e) (.n none (lf f167) (lf f231))) (.n none (.n none (lf f151) .e) (nd f119 (lf f183) .e)))) (.n none (.n none (.n none (nd f67 (.n none (lf f259) .e) .e) (.n none (lf f163) (lf f227))) (.n none (.n none (lf f147) .e) (nd f115 (lf f179) (lf f243)))) (nd f27 (.n none (nd f75 (.n none (lf f267) .e) (lf f203)) (nd f107 (lf f171) (lf f235))) (.n none (.n none (lf f155) (lf f219)) (nd f123 (lf f187) (lf f251)))))) (nd f5 (.n none (.n none (nd f33 (nd f65 .e (lf f193)) (.n none .e (lf f225))) (.n none (nd f81 (lf f145) .e) (nd f113 (lf f177) (lf f241)))) (nd f25 (.n none (nd f73 (.n none (lf f265) .e) .e) (.n none .e (lf f233))) (.n none (.n none (lf f153) .e) (nd f121 (lf f185) (lf f249))))) (.n none (nd f21 (.n none (nd f69 (.n none (lf f261) .e) .e) (.n none .e (lf f229))) (.n none (nd f85 (lf f149) .e) (nd f117 (lf f181) .e))) (nd f29 (.n none (nd f77 (nd f141 (lf f269) .e) (lf f205)) (nd f109 (lf f173) .e)) (.n none (.n none (lf f157) (lf f221)) (nd f125 (lf f189) (lf f253))))))) (.n none (.n none (.n none (nd f16 (nd f32 (nd f64 .e (lf f192)) (nd f96 (lf f160) (lf f224))) (.n none (nd f80 (lf f144) (lf f208)) (nd f112 (lf f176) (lf f240)))) (nd f24 (.n none (nd f72 (nd f136 (lf f264) .e) .e) (.n none .e (lf f232))) (.n none (.n none (lf f152) .e) (nd f120 (lf f184) .e)))) (nd f12 (.n none (.n none (nd f68 (.n none (lf f260) .e) .e) (.n none (lf f164) (lf f228))) (.n none (nd f84 (lf f148) .e) (nd f116 (lf f180) (lf f244)))) (nd f28 (.n none (.n none (.n none (lf f268) .e) (lf f204)) (nd f108 (lf f172) (lf f236))) (.n none (.n none (lf f156) (lf f220)) (nd f124 (lf f188) (lf f252)))))) (.n none (.n none (.n none (.n none (nd f66 (.n none (lf f258) .e) (lf f194)) (.n none .e (lf f226))) (.n none (.n none (lf f146) .e) (nd f114 (lf f178) (lf f242)))) (.n none (.n none (nd f74 (.n none (lf f266) .e) .e) (.n none .e (lf f234))) (.n none (.n none (lf f154) .e) (nd f122 (lf f186) (lf f250))))) (nd f14 (.n none (.n none (nd f70 (.n none (lf f262) .e) .e) (.n none .e (lf f230))) (.n none (nd f86 (lf f150) .e) (nd f118 (lf f182) .e))) (nd f30 (.n none (nd f78 (nd f142 (lf f270) .e) .e) (nd f110 (lf f174) .e)) (.n none (nd f94 (lf f158) (lf f222)) (nd f126 (lf f190) (lf f254))))))))
noncomputable def Sa:T Nat:=qX [(136,4),(244,1)]
noncomputable def Tryz.tab:aZ:={und:=Se,siz:=Sd,byt:=R9,j3:=Sf,agg:=R8,cmp:= .e,held:=Sv,ka:=Sc,fns:=Sb,ext:=Sa,merge:=fun _=>false}
end Go.Proofs
namespace Go.Proofs
open Go Go.Am
def tl:FuncId:=5
def pn:FuncId:=12
def pP:FuncId:=16
def pZ:FuncId:=21
def pR:FuncId:=23
def lX:FuncId:=24
def pG:FuncId:=25
def pB:FuncId:=27
def JG:FuncId:=29
def pK:FuncId:=30
def pC:FuncId:=32
def lI:FuncId:=33
def pD:FuncId:=63
def Jy:FuncId:=65
def tq:FuncId:=68
def JF:FuncId:=74
def pg:FuncId:=75
def tu:FuncId:=78
def pX:FuncId:=79
def tn:FuncId:=80
def nD:FuncId:=81
def RF:FuncId:=84
def pO:FuncId:=94
def pL:FuncId:=96
def JQ:FuncId:=107
def Jl:FuncId:=108
def pJ:FuncId:=109
def tw:FuncId:=110
def pE:FuncId:=113
def JS:FuncId:=114
def pV:FuncId:=115
def pW:FuncId:=116
def pY:FuncId:=117
def nG:FuncId:=118
def JI:FuncId:=119
def pF:FuncId:=121
def zx:FuncId:=122
def zy:FuncId:=123
def pz:FuncId:=124
def tv:FuncId:=125
def pQ:FuncId:=126
def pM:FuncId:=135
def JP:FuncId:=141
def JW:FuncId:=143
def JJ:FuncId:=144
def tt:FuncId:=145
def px:FuncId:=146
def RI:FuncId:=147
def JD:FuncId:=148
def JE:FuncId:=149
def JK:FuncId:=150
def Jz:FuncId:=151
def JC:FuncId:=152
def Jm:FuncId:=154
def ph:FuncId:=155
def pU:FuncId:=157
def JL:FuncId:=160
def lV:FuncId:=163
def lT:FuncId:=164
def pj:FuncId:=167
def JR:FuncId:=171
def Jj:FuncId:=172
def l3:FuncId:=173
def py:FuncId:=174
def pt:FuncId:=175
def nE:FuncId:=176
def pS:FuncId:=177
def JB:FuncId:=178
def JA:FuncId:=179
def tp:FuncId:=180
def pI:FuncId:=184
def lW:FuncId:=203
def lP:FuncId:=204
def lQ:FuncId:=205
def lO:FuncId:=207
def wA:FuncId:=208
def Jn:FuncId:=219
def lS:FuncId:=221
def lZ:FuncId:=222
def lL:FuncId:=223
def Jk:FuncId:=224
def lR:FuncId:=225
def pv:FuncId:=226
def nF:FuncId:=227
def pw:FuncId:=228
def zw:FuncId:=230
def lM:FuncId:=240
def lN:FuncId:=241
def lU:FuncId:=242
def pN:FuncId:=243
def pT:FuncId:=249
def lK:FuncId:=250
def lJ:FuncId:=251
def lH:FuncId:=252
def pA:FuncId:=258
def Ty.string:TypeId:=9
def tb:TypeId:=24
def sZ:TypeId:=33
def Ty.mD:TypeId:=35
def wv:TypeId:=42
def Tc:TypeId:=45
def zt:TypeId:=48
def Jx:TypeId:=126
noncomputable abbrev pc:aZ:=Tryz.tab
theorem Tryz.h1:Tryz.tab.und.dg Tryz.prog.underlying=Tryz.tab.und:=by kernel_rfl
theorem Tryz.h2:Tryz.tab.siz.dg (fun t=>(Tryz.prog.info? t).map (·.size))=Tryz.tab.siz:=by kernel_rfl
theorem Tryz.h3:Tryz.tab.byt.dg (fun t=>(Tryz.prog.info? t).map (·.bytes))=Tryz.tab.byt:=by kernel_rfl
theorem Tryz.h4:Tryz.tab.j3.dg (fun t=>((Tryz.prog.info? t).bind (·.zero)).map oW)=Tryz.tab.j3:=by kernel_rfl
theorem Tryz.h5:Tryz.tab.agg.dg (fun t=>(Tryz.prog.underlying t).map yZ)=Tryz.tab.agg:=by kernel_rfl
theorem Tryz.h6:Tryz.tab.held.dg (fun t=>some (Tryz.prog.stoodInHeld t))=Tryz.tab.held:=by kernel_rfl
theorem Tryz.h7:Tryz.tab.ka.dg (fun t=>some (Tryz.prog.eqGuardType Tryz.prog.depth t))=Tryz.tab.ka:=by kernel_rfl
theorem Tryz.h8:Tryz.tab.fns.dg (fun f=>Tryz.prog.funcs[f]?)=Tryz.tab.fns:=by kernel_rfl
theorem Tryz.h9:Tryz.tab.fns.all (fun fn=> !(fn.name== "runtime.NumGoroutine"))=true:=by kernel_rfl
theorem Tryz.jr:bw Tryz.prog Tryz.tab:=bw.of Tryz.h1 Tryz.h2 Tryz.h3 Tryz.h4 Tryz.h5 Tryz.h6 Tryz.h7 Tryz.h8 Tryz.h9
end Go.Proofs
