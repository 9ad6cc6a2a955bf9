/- Part 1: an evaluator, proved sound, and its use at this seat; no condition. -/
import Derived.Laws.Externs
import Derived.Test.YtmfohfbdddlilaaGreatProg
import Derived.KernelRfl
import Derived.Test.YtmfohfbdddlilaaGreatP0
set_option linter.unusedSimpArgs false
set_option linter.unusedVariables false
set_option linter.unusedSectionVars false
set_option linter.deprecated false
set_option maxRecDepth 100000
namespace Go.Am
open Go.RowKit
section
variable [Inhabited aD]
section
variable {tab:aR} {ops:Array Oper} {nt lo:Nat} {ts0:T AV} {s s':DS} {X:Nat->Prop} {i:Nat} {o:Oper} {v:AV}
theorem cz.iK (H:cz tab ops nt ts0 lo s X) (hi:ops[i]? =some o) (hr:fT s.aC i o=true) (hok:gY s.aC ops i o=true) (hanX:∀p∈dg s.aC o,X p)
   (e1:s'.ts=fG nt s.ts o v) (e2:s'.aC=s.aC.set i (some (dg s.aC o))) (en:s.h.next<=s'.h.next)
   (ea:∀x∈s'.ax,x∈s.ax) (ea':∀x∈s.ax,x.1∉dg s.aC o->x∈s'.ax) (eh:∀x∈s'.ax,s'.h.get x.2=s.h.get x.2) (hd':∀b ob,s'.h.get b=some ob->b<s'.h.next)
   (er:∀j oj tj vj,(j,tj,vj)∈s.reads->j∉dg s.aC o->ops[j]? =some oj->cls tab oj≠ .iK->cls tab oj≠ .alloc->(j,tj,vj)∈s'.reads/\ ∃hr,dZ tab tj hr oj= .ok (vj,hr)/\ ∀b ob,hr.get b=some ob->b<hr.next/\s'.h.get b=some ob/\ ∀x∈s'.ax,x.2≠b):
   cz tab ops nt ts0 lo s' (fun j=>X j\/j=i):=by
 obtain⟨hnone,hpre⟩:=nf hr;obtain⟨hok1,hok2⟩:=tU hok;have hanc:∀j,s'.aC.get j=if j=i then some (dg s.aC o)else s.aC.get j:=by
   intro j;rw[e2,T.aO]
 have hold:∀j,(s.aC.get j).isSome->j≠i/\s'.aC.get j=s.aC.get j:=by
   intro j hj;have hne:j≠i:=by intro e;subst e;rw[hnone]at hj;cases hj
   exact⟨hne,by rw[hanc,if_neg hne]⟩
 have hnd:∀j oj d,(s.aC.get j).isSome->ops[j]? =some oj->oj.dst=some d->o.dst≠some d:=by
   intro j oj d hj hoj hd hod;have:=H.uniq j i oj o d hj hoj hi hd hod;exact(hold j hj).1 this
 have hts:∀t,o.dst≠some t->s'.ts.get t=s.ts.get t:=by
   intro t ht;rw[e1,jA,if_neg];rintro⟨h,_⟩;exact ht h
 refine⟨?_,?_,?_,?_,?_,?_,?_,?_,Ay H.nx en,?_,?_,hd'⟩
 . rintro j (hj|rfl)
   . rw[(hold j (H.cx j hj)).2];exact H.cx j hj
   . rw[hanc,if_pos rfl];rfl
 . rintro j a (hj|rfl) ha p hp
   . rw[(hold j (H.cx j hj)).2]at ha;exact .inl (H.oN j a hj ha p hp)
   . rw[hanc,if_pos rfl]at ha
     cases ha;exact .inl (hanX p hp)
 . intro j hj;rw[hanc]at hj;by_cases h1:j=i
   . subst h1;exact⟨o,hi⟩
   . rw[if_neg h1]at hj;exact H.op j hj
 . intro j a oj ha hoj;rw[hanc]at ha;by_cases h1:j=i
   . subst h1;rw[if_pos rfl]at ha;rw[hi]at hoj
     cases ha;cases hoj;refine⟨fun p hp=>⟨dz.2 (.inl hp),?_⟩,fun x hx=>?_⟩
     . rw[(hold p (hpre p hp)).2];exact hpre p hp
     . rcases dz.1 hx with h|⟨p,hp,ap,h1,h2⟩
       . exact .inl h
       . exact .inr ⟨p,hp,ap,by rw[(hold p (by rw[h1];rfl)).2];exact h1,h2⟩
   . rw[if_neg h1]at ha;obtain⟨g1,g2⟩:=H.shape j a oj ha hoj;refine⟨fun p hp=>⟨(g1 p hp).1,?_⟩,fun x hx=>?_⟩
     . rw[(hold p (g1 p hp).2).2];exact(g1 p hp).2
     . rcases g2 x hx with h|⟨p,hp,ap,h1,h2⟩
       . exact .inl h
       . exact .inr ⟨p,hp,ap,by rw[(hold p (by rw[h1];rfl)).2];exact h1,h2⟩
 . intro a b oa ob d ha hoa hob hda hdb;rw[hanc]at ha;by_cases h1:a=i
   . subst h1;rw[hi]at hoa;cases hoa;exact(hok2 d hda b ob hob).1 hdb
   . rw[if_neg h1]at ha;exact H.uniq a b oa ob d ha hoa hob hda hdb
 . intro t ht;have h1:o.dst≠some t:=ht i o (by rw[hanc,if_pos rfl];rfl) hi;rw[hts t h1];exact H.nA t (fun j oj hj hoj=>ht j oj (by rw[(hold j hj).2];exact hj) hoj)
 . intro j hj hx;have h1:j≠i:=fun e=>hx (.inr e)
   have hxj:¬X j:=fun h=>hx (.inl h)
   have hjan:j∉dg s.aC o:=fun h=>hxj (hanX j h)
   have hj':(s.aC.get j).isSome:=by rw[hanc,if_neg h1]at hj;exact hj
   obtain⟨oj,tj,vj,g1,g2,g3,g4⟩:=H.jQ j hj' hxj;refine⟨oj,tj,vj,g1,?_,?_,?_⟩
   . intro d hd hlt;rw[hts d (hnd j oj d hj' g1 hd)];exact g2 d hd hlt
   . intro t ht;rcases g3 t ht with⟨i1,oi1,k1,k2,k3,k4,k5⟩|⟨k1,k2⟩
     . refine .inl ⟨i1,oi1,k1,k2,k3,by rw[(hold i1 k4).2];exact k4,?_⟩;rw[k5,hts t (hnd i1 oi1 t k4 k1 k2)]
     . refine .inr ⟨k1,?_⟩;intro i' oi a q1 q2 q3;rw[hanc]at q3;by_cases h2:i'=i
       . subst h2;rw[if_pos rfl]at q3;rw[hi]at q1
         cases q1;cases q3;exact .inr ((hok2 t q2 j oj g1).2 hj' ht)
       . rw[if_neg h2]at q3;exact k2 i' oi a q1 q2 q3
   . rcases g4 with⟨k1,k2,k3⟩|⟨k1,k2⟩
     . exact .inl ⟨k1,k2,fun x hx=>k3 x (ea x hx)⟩
     . refine .inr ⟨k1,?_⟩;rcases k2 with k2|⟨b,h1',ob,m1,m2,m3,m4,m5⟩|⟨m1,m2,m3,_⟩
       . exact .inl ⟨k2.1,fun x hx=>k2.2 x (ea x hx)⟩
       . have hm:=ea' _ m1.1 hjan;exact .inr (.inl ⟨b,h1',ob,⟨hm,fun x hx=>m1.2 x (ea x hx)⟩,m2,m3,m4,(eh _ hm).trans m5⟩)
       . obtain⟨q1,q2⟩:=er j oj tj vj m1.1 hjan g1 m2 m3;exact .inr (.inr ⟨⟨q1,fun x hx=>m1.2 x (ea x hx)⟩,m2,m3,q2⟩)
 . intro x hx;have:=H.al x (ea x hx);exact⟨by omega,by rw[(hold _ this.2.1).2];exact this.2.1,this.2.2⟩
 . intro t ht;rw[e1,jA,if_neg (fun h=>absurd h.2 (ED.2 ht))];exact H.qj t ht
 . intro x hx y hy e;exact H.nc x (ea x hx) y (ea y hy) e
theorem zA {h:AH}:∀(l:List (Nat×T AV×AV)),reread tab ops h l= .ok ()->∀j tj vj,(j,tj,vj)∈l->∃oj h',ops[j]? =some oj/\dZ tab tj h oj= .ok (vj,h'):=by
 intro l;induction l with
 |nil=>intro _ j tj vj hm;cases hm
 |cons x l ih=>
  intro h j tj vj hm;obtain⟨i,ts,v⟩:=x;simp only[reread]at h;obtain⟨o,ho,h1⟩:=ah.1 h;obtain⟨⟨u,h'⟩,hp,h2⟩:=ah.1 h1;obtain⟨_,hb,h3⟩:=ah.1 h2;have hb:=AV.beq_eq _ _ (cX.1 hb);rcases Ag.1 hm with e|hm
  . cases e;exact⟨o,h',bV.1 ho,by rw[<-hb];exact hp⟩
  . exact ih h3 j tj vj hm
end
end
section
variable [Inhabited aD]
section
variable {P:Program} {tab:aR} (ok:bC P tab) {sub:FuncId->List AV->AH->R (List (AV×AH))} (hsub:jH P tab sub) (hext:jG P tab)
variable {D:Nat->Prop} {E:Env} {K:KS} {base:List Frame} {frC:Frame} {csC:List Frame} {w:World}
variable {ops:Array Oper} {fr0:ag} {cs:List ag} {k:List bj} {lo:Nat} {s s2:DS} {X:Nat->Prop} {tsR:T AV} {hR:AH} {j:Nat} {l:List Nat} {o:Oper}
open Classical in
include ok hsub hext in
theorem Lw (H:cz tab ops fr0.nt fr0.tmps lo s X) (Q:dK ops fr0 cs k base s X D E K tsR hR (j::l) frC csC w) (hm:fr0.mode= .run) (ho:ops[j]? =some o) (hr:fT s.aC j o=true)
   (hd:tX tab sub ops fr0.nt j o s= .ok s2) (hready:∀p∈gm o,X p):cz tab ops fr0.nt fr0.tmps lo s2 (fun i=>X i\/i=j)/\pV P ops fr0 cs k base s2 (fun i=>X i\/i=j) D E K lo l frC csC w:=by
 unfold tX at hd;obtain⟨_,hck,hd1⟩:=ah.1 hd;obtain⟨b,hb,hd2⟩:=ah.1 hd1;obtain⟨_,hbt,hd3⟩:=ah.1 hd2;obtain⟨⟨v,h1⟩,hp,hd4⟩:=ah.1 hd3;obtain⟨_,hle,hd5⟩:=ah.1 hd4;obtain⟨_,hrr,hd6⟩:=ah.1 hd5;clear hd hd1 hd2 hd3 hd4 hd5
 cases hd6;have hok:=cX.1 hck;have hbt:b=true:=cX.1 hbt;subst hbt;have hle:=Aj (cX.1 hle);obtain⟨hnone,hpre⟩:=nf hr;obtain⟨hok1,hok2⟩:=tU hok;have hxj:¬X j:=fun h=>by have:=H.cx j h;rw[hnone]at this;cases this
 have hanX:∀p∈dg s.aC o,X p:=by
   intro p hp;rcases dz.1 hp with h|⟨q,hq,ap,h1,h2⟩
   . exact hready p h
   . exact H.oN q ap (hready q hq) h1 p h2
 generalize hhid:(s.ax.filter fun x=> !(bS x.1 (dg s.aC o)))=hid at*
 have hidm:∀x,x∈hid↔x∈s.ax/\x.1∉dg s.aC o:=by
   intro x;rw[<-hhid,Au];constructor
   . rintro⟨h1,h2⟩;refine⟨h1,fun hm=>?_⟩;rw[cu.2 hm]at h2;cases h2
   . rintro⟨h1,h2⟩;refine⟨h1,?_⟩
     cases hb:bS x.1 (dg s.aC o)with
     |true=>exact absurd (cu.1 hb) h2
     |false=>rfl
 have hidj:∀x∈hid,x.1≠j:=by
   intro x hx e;have:=(H.al x ((hidm x).1 hx).1).2.1;rw[e,hnone]at this;cases this
 have hl:∀t∈lY ops o,tsR.get t=s.ts.get t:=by
   intro t ht;by_cases hw:∃jj oj,ops[jj]? =some oj/\oj.dst=some t/\(s.aC.get jj).isSome
   . obtain⟨jj,oj,g1,g2,g3⟩:=hw;exact Q.mT jj oj t (hready jj (hok1 t ht jj oj g1 g2 g3)) g1 g2
   . rw[Q.mS t (fun jj oj hx hoj hd=>hw ⟨jj,oj,hoj,hd,H.cx jj hx⟩),H.nA t (fun jj oj hc hoj hd=>hw ⟨jj,oj,hoj,hd,hc⟩)]
 obtain⟨hops,hwant⟩:=vR hl;have a:=kF Q.rel hm rfl ho (by rw[hwant];exact hb);have hfin:=vB (fr0:=fr0) (tsR:=tsR) (l:=l) (k:=k) ho v;let h2:=gN h1 s.h hid
 let pd:=hid.filter fun x=>decide (¬(X x.1\/x.1=j))
 let hR2:=gu h2 pd
 have hg2:∀i,h2.get i=if ∃x∈hid,x.2=i then s.h.get i else h1.get i:=fun i=>mA _ _ _ _
 have hn2:h2.next=h1.next:=pv _ _ _;have hchar:∀i ob,hR2.get i=some ob↔h2.get i=some ob/\ ∀x∈hid,x.2=i->X x.1\/x.1=j:=by
   intro i ob;simp only[hR2,gy];constructor
   . intro h;split at h
     . cases h
     . rename_i hne;refine⟨h,fun x hx e=>?_⟩;by_cases hc:X x.1\/x.1=j
       . exact hc
       . exact absurd ⟨x,by simp only[pd,Au];exact⟨hx,by simpa using hc⟩,e⟩ hne
   . rintro⟨h1,h2⟩;rw[if_neg]
     . exact h1
     . rintro⟨x,hx,e⟩;simp only[pd,Au]at hx;have:=h2 x hx.1 e;exact absurd this (by simpa using hx.2)
 have hR2n:hR2.next=h1.next:=(hU _ _).trans hn2;have hgets:=Lt ok hsub hext Q.rel a (h0:=gu s.h hid) (h1:=h1) (h2:=hR2) (v:=v) (by rw[IC o hops];exact hp) hfin
   (by
     intro i ob h;rw[gy]at h;split at h
     . cases h
     . rename_i hne;refine(Q.hr i ob).2 ⟨h,fun x hx e=>?_⟩;by_cases hc:x.1∈dg s.aC o
       . exact hanX _ hc
       . exact absurd ⟨x,(hidm x).2 ⟨hx,hc⟩,e⟩ hne)
   (by
     intro i ob h;rw[gy]at h;split at h
     . cases h
     . rw[hU];exact H.hd i ob h)
   (by
     intro i ob h;obtain⟨h3,h4⟩:=(hchar i ob).1 h;rw[hg2]at h3;split at h3
     . rename_i hex;right;refine⟨(Q.hr i ob).2 ⟨h3,fun x hx e=>?_⟩,by rw[gy,if_pos hex]⟩;obtain⟨y,hy,e'⟩:=hex;have:x=y:=H.nc x hx y ((hidm y).1 hy).1 (e.trans e'.symm);subst this;exact(h4 x hy e').resolve_right (hidj x hy)
     . exact .inl h3)
   (by
     intro i ob h;obtain⟨h3,_⟩:=(hchar i ob).1 h;rw[hg2]at h3;rw[hR2n];split at h3
     . have:=H.hd i ob h3;left;omega
     . exact .inr ⟨h3,Af _⟩)
   (by rw[hU];exact hle) hR2n (by intro i hi;rw[hU,<-Q.hn];exact Q.rel.dE i hi)
 obtain⟨frC',csC',w',E1,D1,s1,rel1,ag1,dd1,kp1,_,new1⟩:=hgets;rw[hU]at new1;have hdom2:∀i ob,h2.get i=some ob->i<h2.next:=by
   intro i ob h;rw[hn2];rw[hg2]at h;split at h
   . have:=H.hd i ob h;omega
   . rename_i hne;have h3:=(hchar i ob).2 ⟨by rw[hg2,if_neg hne];exact h,fun x hx e=>absurd ⟨x,hx,e⟩ hne⟩;have:=(rel1.all E1 (ai.refl _ _)).1.dE i ob h3;rw[<-hR2n];exact this
 refine⟨?_,fG fr0.nt tsR o v,hR2,frC',csC',w',D1,E1,s1,⟨rel1,hchar,hR2n.trans hn2.symm,?_,?_,?_⟩,ag1,dd1,kp1,?_⟩
 . refine H.iK ho hr hok hanX rfl rfl (by simp only;rw[pv];exact hle) (fun x hx=>((hidm x).1 hx).1) (fun x hx hn=>(hidm x).2 ⟨hx,hn⟩) ?_ hdom2 ?_
   . intro x hx;show h2.get x.2=s.h.get x.2
     rw[hg2,if_pos ⟨x,hx,rfl⟩]
   . intro j' oj tj vj hmr hjan hoj hce hca;have hmf:(j',tj,vj)∈s.reads.filter (fun x=> !(bS x.1 (dg s.aC o))):=by
       rw[Au];refine⟨hmr,?_⟩
       cases hb:bS j' (dg s.aC o)with
       |true=>exact absurd (cu.1 hb) hjan
       |false=>rfl
     refine⟨hmf,?_⟩;obtain⟨oj',hr',g1,g2⟩:=zA _ hrr _ _ _ hmf;rw[hoj]at g1
     cases g1;have hsame:=sX ⟨hce,hca⟩ g2;subst hsame;refine⟨_,g2,?_⟩;intro b ob hg;rw[gy]at hg;split at hg
     . cases hg
     . rename_i hne;exact⟨by rw[hU];exact hdom2 b ob hg,hg,fun x hx e=>hne ⟨x,hx,e⟩⟩
 . intro i oi t hi hoi hd;show(fG fr0.nt tsR o v).get t=(fG fr0.nt s.ts o v).get t
   rw[jA,jA];by_cases hc:o.dst=some t/\t<fr0.nt
   . rw[if_pos hc,if_pos hc]
   . rw[if_neg hc,if_neg hc];rcases hi with hi|rfl
     . exact Q.mT i oi t hi hoi hd
     . rw[ho]at hoi
       cases hoi;have hge:fr0.nt<=t:=DO (fun hlt=>hc ⟨hd,hlt⟩);rw[H.qj t hge];exact Q.rel.wf.1 t hge
 . intro t ht;rw[jA,if_neg (fun h=>ht j o (.inr rfl) ho h.1)];exact Q.mS t (fun i oi hi hoi=>ht i oi (.inl hi) hoi)
 . intro x hx hnx hD;have hxm:=((hidm x).1 hx).1;rcases new1 x.2 hD with hd|hd
   . exact Q.dp x hxm (fun h=>hnx (.inl h)) hd
   . have:=(H.al x hxm).1;omega
 . intro i hi;rcases new1 i hi with h|h
   . exact .inl h
   . exact .inr (Ay H.nx h)
end
end
section
variable [Inhabited aD]
theorem bm.same {E:Env} {h h':AH} {K:KS} {w:World} (H:bm E h K w) (hg:∀i ob,h'.get i=some ob->h.get i=some ob) (hn:h.next<=h'.next):bm E h' K w:=
 ⟨fun i o hi=>H.obj i o (hg i o hi),fun i o hi=>H.nk i o (hg i o hi),fun i j oi oj hi hj=>H.inj i j oi oj (hg i oi hi) (hg j oj hj),fun i o hi=>AJ (H.dE i o (hg i o hi)) hn,H.kb,fun i o hi=>H.im i o (hg i o hi),H.k0⟩
section
variable {tab:aR} {D:Nat->Prop} {E:Env} {K:KS} {base:List Frame} {frC:Frame} {csC:List Frame} {w:World}
variable {ops:Array Oper} {fr0:ag} {cs:List ag} {k:List bj} {lo:Nat} {s s':DS} {X:Nat->Prop} {tsR:T AV} {hR:AH} {j:Nat} {l:List Nat} {o:Oper}
theorem dK.look (H:cz tab ops fr0.nt fr0.tmps lo s X) (Q:dK ops fr0 cs k base s X D E K tsR hR l frC csC w)
   (ht:∀j o t,X j->ops[j]? =some o->o.dst=some t->s'.ts.get t=s.ts.get t) (hn:s.h.next<=s'.h.next)
   (hg:∀i ob,(s'.h.get i=some ob/\ ∀x∈s'.ax,x.2=i->X x.1)↔(s.h.get i=some ob/\ ∀x∈s.ax,x.2=i->X x.1))
   (ha:∀x∈s'.ax,x∈s.ax\/s.h.next<=x.2):dK ops fr0 cs k base s' X D E K tsR {hR with next:=s'.h.next} l frC csC w:=by
 have hget:∀i,({hR with next:=s'.h.next}:AH).get i=hR.get i:=fun _=>rfl
 refine⟨⟨fun E' he=>?_,fun i hi=>?_,Q.rel.wf⟩,?_,rfl,?_,Q.mS,?_⟩
 . obtain⟨g1,g2,g3⟩:=Q.rel.all E' he;exact⟨g1.same (fun i ob h=>h) (by simp only;rw[Q.hn];exact hn),g2,g3⟩
 . have:=Q.rel.dE i hi;simp only at this⊢;rw[Q.hn]at this;omega
 . intro i ob;rw[hget,Q.hr i ob,hg i ob]
 . intro j o t hx ho hd;rw[Q.mT j o t hx ho hd,ht j o t hx ho hd]
 . intro x hx hnx hd;rcases ha x hx with h|h
   . exact Q.dp x h hnx hd
   . have:=Q.rel.dE _ hd;simp only at this;rw[Q.hn]at this;omega
theorem CQ:∀(l:List Oper) (k:Nat),np k l=true->∀j o,l[j]? =some o->∀p∈gm o,p<k+j:=by
 intro l;induction l with
 |nil=>intro k _ j o h;simp at h
 | cons x l ih=>
  intro k h j o hj p hp;simp only[np,Ab,AA]at h
  cases j with
  |zero=>
   simp only[AB,AI]at hj;subst hj;have:=h.1 p hp;simpa using this
  |succ j=>
   have:=ih (k+1) h.2 j o (by simpa using hj) p hp;omega
end
section
variable {tab:aR} {D:Nat->Prop} {E:Env} {K:KS} {base:List Frame} {frC:Frame} {csC:List Frame} {w:World}
variable {ops:Array Oper} {fr0:ag} {cs:List ag} {k:List bj} {lo:Nat} {X:Nat->Prop} {tsR:T AV} {l:List Nat}
theorem JX {s s':DS} {i:Nat} {o:Oper} {hR:AH} (hf:oe tab ops fr0.nt i o s= .ok (some s')) (hi:ops[i]? =some o) (hr:fT s.aC i o=true) (H:cz tab ops fr0.nt fr0.tmps lo s X)
  (Q:dK ops fr0 cs k base s X D E K tsR hR l frC csC w):∃hR',dK ops fr0 cs k base s' X D E K tsR hR' l frC csC w:=by
 obtain⟨hnone,_⟩:=nf hr;have hxi:¬X i:=fun h=>by have:=H.cx i h;rw[hnone]at this;cases this
 have hput:∀(v:AV) j oj t,X j->ops[j]? =some oj->oj.dst=some t->(fG fr0.nt s.ts o v).get t=s.ts.get t:=by
  intro v j oj t hx ho hd;rw[jA,if_neg];rintro⟨h,_⟩;have:=H.uniq j i oj o t (H.cx j hx) ho hi hd h;exact hxi (this▸hx)
 have hsame:∀(v:AV) (s2:DS),s2.ts=fG fr0.nt s.ts o v->s2.h=s.h->s2.ax=s.ax->∃hR',dK ops fr0 cs k base s2 X D E K tsR hR' l frC csC w:=by
  intro v s2 e1 e2 e3;refine⟨_,Q.look H (s':=s2) ?_ (by rw[e2];exact Af _) (fun i ob=>by rw[e2,e3]) (fun x hx=> .inl (by rw[<-e3];exact hx))⟩;intro j oj t hx ho hd;rw[e1];exact hput v j oj t hx ho hd
 unfold oe at hf;obtain⟨_,hck,hf1⟩:=ah.1 hf;obtain⟨b,hb,hf2⟩:=ah.1 hf1;clear hf hf1
 cases b with
 |false=>
  simp only[Ds,if_true]at hf2
  cases hf2;exact hsame _ _ rfl rfl rfl
 | true =>
  simp only[BX,Ai,Az]at hf2;split at hf2
  . cases hf2
  . obtain⟨⟨u,h1⟩,hp,hf3⟩:=ah.1 hf2;obtain⟨_,hn,hf4⟩:=ah.1 hf3;obtain⟨ob,hob,hf5⟩:=ah.1 hf4
    cases hf5;refine⟨_,Q.look H (hput u) (by simp) ?_ ?_⟩
    . intro i' ob';simp only;rw[AH.aK];by_cases e:i'=s.h.next
      . subst e;rw[if_pos rfl];constructor
        . rintro⟨_,h2⟩;exact absurd (h2 _ An rfl) hxi
        . rintro⟨h1,_⟩;have:=H.hd _ _ h1;omega
      . rw[if_neg e];constructor
        . rintro⟨h1,h2⟩;exact⟨h1,fun x hx e'=>h2 x (Al _ hx) e'⟩
        . rintro⟨h1,h2⟩;refine⟨h1,fun x hx e'=>?_⟩;rcases Ag.1 hx with rfl|hx
          . exact absurd e'.symm e
          . exact h2 x hx e'
    . intro x hx;rcases Ag.1 hx with rfl|hx
      . exact .inr (Af _)
      . exact .inl hx
  . split at hf2
    . rename_i u h1 hm';obtain⟨_,hn,hf3⟩:=ah.1 hf2
      cases hf3;exact hsame _ _ rfl rfl rfl
    . split at hf2
      . rename_i u h1 hp
        cases hf2;exact hsame _ _ rfl rfl rfl
      . cases hf2
theorem tl:∀(l':List Oper) (n:Nat) (s s':DS) (hR:AH),(∀j o,l'[j]? =some o->ops[n+j]? =some o)->jE tab ops fr0.nt n l' s= .ok s'->cz tab ops fr0.nt fr0.tmps lo s X->
  dK ops fr0 cs k base s X D E K tsR hR l frC csC w->∃hR',dK ops fr0 cs k base s' X D E K tsR hR' l frC csC w:=by
 intro l';induction l' with
 |nil=>intro n s s' hR _ h H Q;simp only[jE]at h;cases h;exact⟨hR,Q⟩
 |cons o l' ih=>
  intro n s s' hR hl h H Q;have hl':∀j o',l'[j]? =some o'->ops[n+1+j]? =some o':=by
    intro j o' hj;have:=hl (j+1) o' (by simpa using hj);rw[show n+1+j=n+(j+1)from by omega];exact this
  simp only[jE]at h;by_cases hr:fT s.aC n o=true
  . simp only[hr,Bd]at h;obtain⟨x,hx,h1⟩:=ah.1 h
    cases x with
    |none=>exact ih (n+1) s s' hR hl' h1 H Q
    |some s1=>
     have hin:ops[n]? =some o:=by simpa using hl 0 o rfl
     obtain⟨hR1,Q1⟩:=JX hx hin hr H Q;exact ih (n+1) s1 s' hR1 hl' h1 (yG hx hin hr H) Q1
  . have:fT s.aC n o=false:=by simpa using hr
    simp only[this,AN]at h;exact ih (n+1) s s' hR hl' h H Q
end
end
section
variable [Inhabited aD]
def di (listed:Array Bool) (j:Nat):Prop:=listed.getD j false=true
def l7 (n:Nat) (listed:Array Bool):Nat:=((List.range n).filter fun i=> !listed.getD i false).length
theorem IE {p q:Nat->Bool} {i:Nat}:∀(l:List Nat),(∀j,q j=true->p j=true)->i∈l->p i=true->q i=false->(l.filter q).length+1<=(l.filter p).length:=by
 intro l;induction l with
 |nil=>intro _ h;cases h
 |cons x l ih=>
  intro hqp hi hp hq;rcases Ag.1 hi with rfl|hi
  . rw[Bn,Bn,if_pos hp,if_neg (by rw[hq];simp),As];have:(l.filter q).length<=(l.filter p).length:=by
      rw[<-EA,<-EA];exact List.countP_mono_left (fun x _=>hqp x)
    omega
  . have:=ih hqp hi hp hq;rw[Bn,Bn];by_cases h1:q x=true
    . rw[if_pos h1,if_pos (hqp x h1)];simp only[As];omega
    . rw[if_neg h1];by_cases h2:p x=true
      . rw[if_pos h2];simp only[As];omega
      . rw[if_neg h2];exact this
theorem tV {listed:Array Bool} {i:Nat} (hi:i<listed.size):di (listed.setIfInBounds i true)=fun j=>di listed j\/j=i:=by
 funext j
 apply propext;unfold di;rw[Dd,Dd,Bx];by_cases h:i=j
 . subst h;simp[hi]
 . have:¬j=i:=fun e=>h e.symm
   simp[h,this]
theorem FT {n:Nat} {listed:Array Bool} {i:Nat} (hi:i<n) (hs:i<listed.size) (hx:¬di listed i):l7 n (listed.setIfInBounds i true)+1<=l7 n listed:=by
 refine IE _ ?_ (Eg.2 hi) (by unfold di at hx;simpa using hx) ?_
 . intro j hj;have h1:¬di (listed.setIfInBounds i true) j:=by unfold di;simpa using hj
   rw[tV hs]at h1;have:¬di listed j:=fun h=>h1 (.inl h)
   unfold di at this;simpa using this
 . have:di (listed.setIfInBounds i true) i:=by rw[tV hs];exact .inr rfl
   unfold di at this;simp[this]
theorem CZ {n:Nat} {listed:Array Bool} (h:l7 n listed=0):∀j,j<n->di listed j:=by
 intro j hj;unfold l7 at h;have:=AZ h;rw[E0]at this;have:=this j (Eg.2 hj);unfold di;simpa using this
end
section
variable [Inhabited aD]
section
variable {P:Program} {tab:aR} (ok:bC P tab) {sub:FuncId->List AV->AH->R (List (AV×AH))} (hsub:jH P tab sub) (hext:jG P tab)
variable {K:KS} {base:List Frame}
variable {ops:Array Oper} {fr0:ag} {cs:List ag} {k:List bj} {lo:Nat}
def Fin (P:Program) (fr0:ag) (cs:List ag) (k:List bj) (base:List Frame) (K:KS) (lo:Nat) (sF:DS) (D:Nat->Prop) (E:Env) (frC:Frame) (csC:List Frame) (w:World):Prop:=
 ∃frC' csC' w' D' E',Steps P (lone frC csC w) (lone frC' csC' w')/\Rel D' E' K {fr:={fr0 with tmps:=sF.ts,todo:=k},cs,h:=sF.h} base frC' csC' w'/\ai D E E'/\(∀i,D i->D' i)/\Kept K w w'/\(∀i,D' i->D i\/lo<=i)/\lo<=sF.h.next
def l9 (tab:aR) (sub:FuncId->List AV->AH->R (List (AV×AH))) (ops:Array Oper) (nt:Nat) (s sF:DS):Prop:=
 (ic s.aC 0 ops.toList=[]/\sF=s)\/ ∃c o n s2,ic s.aC 0 ops.toList=[(c,o)]/\tX tab sub ops nt c o s= .ok s2/\pJ tab sub ops nt n s2= .ok sF
theorem zP {nt n:Nat} {s sF:DS} (h:pJ tab sub ops nt n s= .ok sF):∃s1,jE tab ops nt 0 ops.toList s= .ok s1/\l9 tab sub ops nt s1 sF:=by
 cases n with
 |zero=>simp only[pJ]at h;cases h
 |succ n=>
  simp only[pJ]at h;obtain⟨s1,h1,h2⟩:=ah.1 h;refine⟨s1,h1,?_⟩;split at h2
  . rename_i hc;obtain⟨_,_,h3⟩:=ah.1 h2
    cases h3;exact .inl ⟨hc,rfl⟩
  . rename_i c o hc;obtain⟨s2,h3,h4⟩:=ah.1 h2;exact .inr ⟨c,o,n,s2,hc,h3,h4⟩
  . cases h2
include ok hsub hext in
theorem Hu (hm:fr0.mode= .run) (hlt:np 0 ops.toList=true):∀(fuel t:Nat) (listed:Array Bool) (s sF:DS) (D:Nat->Prop) (E:Env) (tsR:T AV) (hR:AH) (frC:Frame) (csC:List Frame) (w:World),
  listed.size=ops.size->l7 ops.size listed<=fuel->l9 tab sub ops fr0.nt s sF->cz tab ops fr0.nt fr0.tmps lo s (di listed)->
  dK ops fr0 cs k base s (di listed) D E K tsR hR (Region.linearise.go .any ops fuel t listed []) frC csC w->Fin P fr0 cs k base K lo sF D E frC csC w:=by
 have hend:∀(listed:Array Bool) (s sF:DS) (D:Nat->Prop) (E:Env) (tsR:T AV) (hR:AH) (frC:Frame) (csC:List Frame) (w:World),(∀j,j<ops.size->di listed j)->
    l9 tab sub ops fr0.nt s sF->cz tab ops fr0.nt fr0.tmps lo s (di listed)->dK ops fr0 cs k base s (di listed) D E K tsR hR [] frC csC w->Fin P fr0 cs k base K lo sF D E frC csC w:=by
  intro listed s sF D E tsR hR frC csC w hall htodo H Q;rcases htodo with⟨_,rfl⟩|⟨c,o,n,s2,hc,_,_⟩
  . have hts:∀t,tsR.get t=sF.ts.get t:=by
      intro t;by_cases hw:∃(j:Nat) (oj:Oper),ops[j]? =some oj/\oj.dst=some t
      . obtain⟨j,oj,h1,h2⟩:=hw;exact Q.mT j oj t (hall j (Aa.1 h1).1) h1 h2
      . rw[Q.mS t (fun j oj _ h1 h2=>hw ⟨j,oj,h1,h2⟩),H.nA t (fun j oj _ h1 h2=>hw ⟨j,oj,h1,h2⟩)]
    have hst:∀E',Go.step P (lone (aX E' {fr0 with tmps:=tsR,todo:= .inRegion ops []::k}) csC w)= .next (lone (aX E' {fr0 with tmps:=tsR,todo:=k}) csC w):=
      fun E'=>step_lone_go (by simp[stepG,stepG.exec,aX,hm,eC,cY])
    have hconc:∀E',aX E' {fr0 with tmps:=sF.ts,todo:=k}=aX E' {fr0 with tmps:=tsR,todo:=k}:=by
      intro E';have:fK E' sF.ts fr0.nt=fK E' tsR fr0.nt:=by
        unfold fK rF;simp only[hts]
      simp only[aX,this]
    have hfr:=(Q.rel.all E (ai.refl _ _)).2.1;simp only at hfr;refine⟨aX E {fr0 with tmps:=tsR,todo:=k},csC,w,D,E, .one (by rw[<-hfr];exact hst E),⟨fun E' he=>?_,fun i hi=>?_,?_,Q.rel.wf.2⟩,ai.refl _ _,fun _ h=>h,Kept.refl K w,fun i hi=> .inl hi,H.nx⟩
    . obtain⟨g1,g2,g3⟩:=Q.rel.all E' he;refine⟨g1.same (fun i ob h=>(Q.hr i ob).2 ⟨h,fun x hx _=>?_⟩) (by simp only;rw[Q.hn];exact Af _),?_,g3⟩
      . obtain⟨o,ho⟩:=H.op _ (H.al x hx).2.1;exact hall _ (Aa.1 ho).1
      . simp only;rw[hconc E'];have h1:=hst E';simp only at g2;rw[g2,<-hfr,hst E]at h1;exact(og (by simpa using h1)).1.symm
    . have:=Q.rel.dE i hi;simp only at this⊢;rw[Q.hn]at this;exact this
    . intro t ht;have:=Q.rel.wf.1 t ht;simp only at this⊢;rw[<-hts t];exact this
  . have hcm:(c,o)∈ic s.aC 0 ops.toList:=by rw[hc];exact An
    obtain⟨j',h1,h2,h3⟩:=yV _ _ _ _ _ hcm;have hlt':c<ops.size:=by
      have:=(Ac.1 h2).1;simp at this;omega
    have:=H.cx c (hall c hlt');rw[(nf h3).1]at this
    cases this
 intro fuel;induction fuel with
 |zero=>
  intro t listed s sF D E tsR hR frC csC w hsz hu htodo H Q;exact hend listed s sF D E tsR hR frC csC w (CZ (by omega)) htodo H (by simpa [Region.linearise.go]using Q)
 | succ fuel ih=>
  intro t listed s sF D E tsR hR frC csC w hsz hu htodo H Q;simp only[Region.linearise.go]at Q;change dK ops fr0 cs k base s (di listed) D E K tsR hR (match(Region.ready .any ops listed)[t % (Region.ready .any ops listed).length]? with
    |some i=>Region.linearise.go .any ops fuel (t / (Region.ready .any ops listed).length) (listed.setIfInBounds i true) [i]
    |none=>[].reverse) frC csC w at Q
  have hget:∀j,j<ops.size->(listed.getD j true=false↔¬di listed j):=by
    intro j hj;unfold di;have:j<listed.size:=by omega
    simp[Array.getD,this]
  cases hi:(Region.ready .any ops listed)[t % (Region.ready .any ops listed).length]? with
  | none=>
    rw[hi]at Q;have hnil:Region.ready .any ops listed=[]:=by
      cases hr:Region.ready .any ops listed with
      |nil=>rfl
      | cons x xs=>
        rw[hr]at hi;have hlt:t % (x::xs).length<(x::xs).length:=Nat.mod_lt _ (by simp);rw[D6]at hi;omega
    have hall:∀j,j<ops.size->di listed j:=by
      intro j;induction j using Nat.strongRecOn with
      | _ j ihj=>
        intro hj;by_cases hx:di listed j
        . exact hx
        . exfalso;have hm':j∈Region.ready .any ops listed:=by
           rw[mem_ready];refine⟨(hget j hj).2 hx,ops[j],A6 hj,?_⟩;intro e he hb;have hp:e.on∈gm ops[j]:=Ar.2 ⟨e,Au.2 ⟨by simpa using he,hb⟩,rfl⟩;have hlt':=CQ ops.toList 0 hlt j ops[j] (by simp[hj]) e.on hp;exact ihj e.on (by omega) (by omega)
          rw[hnil]at hm'
          cases hm'
    exact hend listed s sF D E tsR hR frC csC w hall htodo H Q
  | some i =>
    rw[hi]at Q;simp only at Q;rw[linearise_go_acc,DA,Dn]at Q;obtain⟨hl1,o,ho,hdeps⟩:=mem_ready.1 (BC hi);have hin:i<ops.size:=(Aa.1 ho).1;have hx:=(hget i hin).1 hl1;have hready:∀p∈gm o,di listed p:=by
      intro p hp;obtain⟨e,he,rfl⟩:=Ar.1 hp;obtain⟨he1,he2⟩:=Au.1 he;exact hdeps e (by simpa using he1) he2
    have hsz':(listed.setIfInBounds i true).size=ops.size:=by simp[hsz]
    have hu':l7 ops.size (listed.setIfInBounds i true)<=fuel:=by
      have:=FT hin (by omega) hx;omega
    have hX':di (listed.setIfInBounds i true)=fun j=>di listed j\/j=i:=tV (by omega)
    have hfin:∀(s':DS),l9 tab sub ops fr0.nt s' sF->cz tab ops fr0.nt fr0.tmps lo s' (fun j=>di listed j\/j=i)->
        pV P ops fr0 cs k base s' (fun j=>di listed j\/j=i) D E K lo (Region.linearise.go .any ops fuel (t / (Region.ready .any ops listed).length) (listed.setIfInBounds i true) []) frC csC w->Fin P fr0 cs k base K lo sF D E frC csC w:=by
      intro s' htd H' hc;obtain⟨tsR',hR',frC',csC',w',D',E',c1,c2,c3,c4,c5,c6⟩:=hc;obtain⟨frF,csF,wF,DF,EF,f1,f2,f3,f4,f5,f6,f7⟩:=ih _ (listed.setIfInBounds i true) s' sF D' E' tsR' hR' frC' csC' w' hsz' hu' htd (by rw[hX'];exact H') (by rw[hX'];exact c2);exact⟨frF,csF,wF,DF,EF,c1.trans f1,f2,c3.trans f3 c4,fun x hx=>f4 x (c4 x hx),c5.trans f5,fun x hx=>(f6 x hx).elim (c6 x) .inr,f7⟩
    by_cases hC:(s.aC.get i).isSome=true
    . exact hfin s htodo (H.qo hC ho hready) (zI ok H Q hm ho hC hx hready)
    . have hr:fT s.aC i o=true:=by
        unfold fT;simp only[Ab,AA];exact⟨by simpa using hC,fun p hp=>H.cx p (hready p hp)⟩
      have hcm:(i,o)∈ic s.aC 0 ops.toList:=by
        have:=Cv ops.toList 0 s.aC i o (by simpa using ho) (by simpa using hr);simpa using this
      rcases htodo with⟨hc,_⟩|⟨c,o',n,s2,hc,hd,hloop⟩
      . rw[hc]at hcm;cases hcm
      . rw [hc]at hcm;rcases Ag.1 hcm with e|hcm
        . cases e;obtain⟨H2,tsR',hR',frC',csC',w',D',E',c1,c2,c3,c4,c5,c6⟩:=Lw ok hsub hext H Q hm ho hr hd hready;obtain⟨s3,hpass,htd3⟩:=zP hloop;have hpl:∀j o,ops.toList[j]? =some o->ops[0+j]? =some o:=by
           intro j o hj;simpa using hj
          obtain⟨hR3,Q3⟩:=tl ops.toList 0 s2 s3 hR' hpl hpass H2 c2;exact hfin s3 htd3 (sG ops.toList 0 s2 s3 hpl hpass H2) ⟨tsR',hR3,frC',csC',w',D',E',c1,Q3,c3,c4,c5,c6⟩
        . cases hcm
end
end
section
variable [Inhabited aD]
section
variable {P:Program} {tab:aR} (ok:bC P tab) {sub:FuncId->List AV->AH->R (List (AV×AH))} (hsub:jH P tab sub) (hext:jG P tab)
theorem pG (n j:Nat):¬di (Array.replicate n false) j:=by
 unfold di;rw[Dd,ET];split<;>simp
include ok hsub hext in
theorem vO (hmix:P.follows .mixedOrders=true):xn P tab sub:=by
 intro fr cs h id ops k ts h' hm ht hd D E K base frC csC w hR;unfold draw at hd;obtain⟨_,hlt,hd1⟩:=ah.1 hd;obtain⟨sF,hloop,hd2⟩:=ah.1 hd1
 cases hd2;have hlt:=cX.1 hlt;let s0:DS:={ts:=fr.tmps,h,aC:= .e,reads:=[],ax:=[]}
 let ord:=w.tape w.drawn (.order frC.fn id)
 let l:=Region.linearise.go .any ops ops.size ord (Array.replicate ops.size false) []
 have hstep:∀E',ai D E E'->Go.step P (lone frC csC w)= .next (lone (aX E' {fr with tmps:=fr.tmps,todo:= .inRegion ops l::k}) csC w.drew):=by
  intro E' he;have e1:=(hR.all E' he).2.1;simp only at e1;refine step_lone_go ?_;have hmC:frC.mode= .run:=by rw[<-e1];simp[aX,hm,eC]
  have htC:frC.todo= .code (.region id ops true)::k.map (cY E'):=by rw[<-e1];simp[aX,ht,cY]
  have hrun:(choose (.order frC.fn id)).run P w= .ok ord w.drew:=by
    simp only[choose,Sem.run,Question.forced,Ai,Az,Question.cut];rfl
  have hsch:Region.schedule (P.follows .mixedOrders) ops ord=l:=by
    simp only[Region.schedule,hmix,E2,if_true];rfl
  have hgoal:aX E' {fr with tmps:=fr.tmps,todo:= .inRegion ops l::k}={frC with todo:= .inRegion ops l::k.map (cY E')}:=by
    rw[<-e1];rfl
  rw[hgoal];unfold stepG stepG.exec;simp only[hmC,htC,BX,Ai,Az,hrun,hsch,GStep.bare_go]
 have hdom:=(hR.all E (ai.refl _ _)).1.dE;have H0:cz tab ops fr.nt fr.tmps h.next s0 (di (Array.replicate ops.size false)):=by
  have hnone:∀j,s0.aC.get j=none:=fun _=>rfl
  refine⟨fun j hj=>absurd hj (pG _ _),fun j a hj=>absurd hj (pG _ _),?_,?_,?_,fun _ _=>rfl,?_,fun x hx=>(by cases hx),Af _,hR.wf.1,fun x hx=>(by cases hx),hdom⟩
  . intro j hj;rw[hnone]at hj;cases hj
  . intro j a o hj;rw[hnone]at hj;cases hj
  . intro i j oi oj d hi;rw[hnone]at hi;cases hi
  . intro j hj;rw[hnone]at hj;cases hj
 have Q0:dK ops fr cs k base s0 (di (Array.replicate ops.size false)) D E K fr.tmps h l (aX E {fr with tmps:=fr.tmps,todo:= .inRegion ops l::k}) csC w.drew:=by
  refine⟨⟨fun E' he=>?_,hR.dE,hR.wf⟩,fun i ob=>⟨fun h=>⟨h,fun x hx=>(by cases hx)⟩,fun h=>h.1⟩,rfl,fun j o t hx=>absurd hx (pG _ _),fun _ _=>rfl,fun x hx=>by cases hx⟩;obtain⟨g1,g2,g3⟩:=hR.all E' he;refine⟨g1.drew,?_,g3⟩;have h1:=hstep E' he;rw[hstep E (ai.refl _ _)]at h1;exact(og (by simpa using h1)).1.symm
 obtain⟨s1,hpass,htodo⟩:=zP hloop;have hpl:∀j o,ops.toList[j]? =some o->ops[0+j]? =some o:=by
  intro j o hj;simpa using hj
 obtain⟨hR1,Q1⟩:=tl ops.toList 0 s0 s1 h hpl hpass H0 Q0;have H1:=sG ops.toList 0 s0 s1 hpl hpass H0;obtain⟨frC',csC',w',D',E',f1,f2,f3,f4,f5,f6,f7⟩:=Hu ok hsub hext hm hlt ops.size ord (Array.replicate ops.size false) s1 sF D E fr.tmps hR1 _ csC w.drew (by simp)
  (by unfold l7;have:=Bi (fun i=> !(Array.replicate ops.size false).getD i false) (List.range ops.size);simpa using this) htodo H1 Q1
 exact⟨frC',csC',w',E',D',Steps.head (hstep E (ai.refl _ _)) f1,f2,f3,f4,(Kept.drew K w).trans f5,f7,f6⟩
end
end
section
variable [Inhabited aD]
def mN (tag:Nat) (fn:Func):Array Value->Sem Value:=
 match tag with
 |1=>Extern.BytealgCompare.compare
 |2=>Extern.AbiNoEscape.same
 |3=>Extern.BytealgMakeNoZero.makeNoZero fn.params fn.resultTypes
 |5=>Extern.BytealgIndexByte.indexByte
 |_=>Extern.SlicesOverlaps.overlaps fn.params fn.resultTypes
def ft (P:Program) (tab:aR):Prop:=∀f tag fn,tab.ext.get f=some tag->tab.fns.get f=some fn->Extern.findNext fn=none/\Extern.find fn=some (mN tag fn)
theorem NN (ps rs:Array TypeId) (n:Int):Extern.BytealgMakeNoZero.makeNoZero ps rs #[.int .i64 n]=(do
 let some t:=rs[0]? |stuck "bytealg.MakeNoZero: no result type"
 let .slice elem<-underlying t|stuck "bytealg.MakeNoZero: slice type expected"
 if n<0||n>2 ^ 48 then runtimePanic (.error "makeslice: len out of range")
 let cap<-choose (.appendCap n.toNat 0 elem)
 askRoom cap
 let bytes<-choose (.extern "internal/bytealg.MakeNoZero.bytes" 0)
 let a<-Go.newRow elem (Extern.BytealgMakeNoZero.digits cap bytes #[])
 pure (.slice (some a) n.toNat cap)):=rfl
theorem Gu (ps rs:Array TypeId) (a b:Option Addr) (la lb ca cb:Nat):Extern.SlicesOverlaps.overlaps ps rs #[.slice a la ca, .slice b lb cb]=(do
 let some t:=ps[0]? |stuck "slices.overlaps: no parameter types"
 let .slice elem<-underlying t|stuck "slices.overlaps: slice type expected"
 let size<-sizeOf elem
 match a,b with
 | some a,some b=>
  if la=0\/lb=0\/size=0 then pure (.bool false)
  else if a.block !=b.block&&(<-Go.frozen a)&&(<-Go.frozen b)then unsupported .addressObserved
  else do
   if a.block !=b.block then do
    noView a;noView b
    if<-mayBeOne a b then return .bool ((<-choose (.extern "sameAddr.stringBytes" 2))==1)
   pure (.bool (a.block==b.block&&a.off<b.off+lb*size&&b.off<a.off+la*size))
 |_,_=>pure (.bool false)):=rfl
theorem OW (b c:Value):Extern.BytealgIndexByte.indexByte #[b,c]=(do
 let b<-Extern.Bytes.bytesOf b
 let c<-Extern.Bytes.asByte c
 match(List.range b.size).find? fun i=>b[i]! ==c with
 |some i=>pure (Go.goInt i)
 |none=>pure (Go.goInt (-1))):=rfl
theorem Iz:∀(n t:Nat) (acc:Array Value),(Extern.BytealgMakeNoZero.digits n t acc).size=acc.size+n:=by
 intro n;induction n with
 |zero=>intro t acc;rfl
 |succ n ih=>intro t acc;simp only[Extern.BytealgMakeNoZero.digits,ih,Dm];omega
section
variable {P:Program} {tab:aR} (ok:bC P tab) (het:ft P tab)
include ok het
theorem OT : jG P tab:=by
 intro f fn args h v h' hfn hb hx w;have hP:=ok.fns f fn hfn;unfold tL at hx;split at hx
 . rename_i tag htag;obtain⟨hn,he⟩:=het f tag fn htag hfn;have hrun:∀a (w:World),(callFunc f a).run P w=((mN tag fn a).run P w).andThen fun v w'=> .ok (.value v) w':=fun a w=>run_callFunc_extern hP (ok.sy f fn hfn) (by rw[hb];rfl) hn he a w
   unfold extern at hx;split at hx
   . cases hx;refine⟨(0,0),fun E K H _=>⟨by omega,w,?_,H,Kept.refl K w⟩⟩;rw[hrun];rfl
   . cases hx;refine⟨(0,0),fun E K H _=>⟨by omega,w,?_,H,Kept.refl K w⟩⟩;rw[hrun];rfl
   ·
     rename_i n;obtain⟨t,ht,hx1⟩:=ah.1 hx;obtain⟨d,hd,hx2⟩:=ah.1 hx1;have hPt:=ok.und t d (bV.1 hd);have ht:=bV.1 ht;split at hx2
     . rename_i e;obtain⟨z,hz,hx2'⟩:=ah.1 hx2;obtain⟨_,hle,hx3⟩:=ah.1 hx2';obtain⟨⟨h1,b⟩,hrow,hx4⟩:=ah.1 hx3
       cases hx4;have hle:=cX.1 hle;simp only[Ab]at hle;have hz1:=Ad hle.2;have hle:=Aj hle.1;subst hz1;obtain⟨sz,hsz,rfl,rfl⟩:=gv hrow;rw[hz]at hsz
       cases hsz;refine⟨(w.heap.size,grownCap w n 0 e),fun E K H hE=>?_⟩;obtain⟨hE1,hE2⟩:=hE (by simp);simp only at hE1 hE2;refine⟨by simp,w.drew.drew.alloc (.cells (Extern.BytealgMakeNoZero.digits (grownCap w n 0 e) ((Question.extern "internal/bytealg.MakeNoZero.bytes" 0).cut (w.drew.tape w.drew.drawn (.extern "internal/bytealg.MakeNoZero.bytes" 0))) #[]) e),?_,?_,?_⟩
       . rw[hrun];have h1:¬((n:Int)<0):=by omega
         have h2:¬((n:Int)>2 ^ 48):=by
           have:(2:Int) ^ 48=281474976710656:=by decide
           rw[this];omega
         have hq:(Question.appendCap n 0 e).cut (w.tape w.drawn (.appendCap n 0 e))=grownCap w n 0 e:=rfl;have hor:((decide ((n:Int)<0))||(decide ((n:Int)>2 ^ 48)))=false:=by rw[B5 h1,B5 h2];rfl
         show(((Extern.BytealgMakeNoZero.makeNoZero fn.params fn.resultTypes #[.int .i64 (n:Int)]).run P w).andThen fun v w'=> .ok (Next.value v) w')=_
         rw[NN];simp only[ht,Sem.run_bind,underlying,run_program,Result.andThen_ok,hPt,Sem.run_pure,hor,Ai,Az,run_choose,Question.forced,D8,hq,World.drew_eq,run_askRoom,nY];simp[ae,fb.val,hE1,hE2]
       . exact H.drew.drew.new (by simpa using hE1) ⟨_,_,rfl,⟨_,rfl⟩,by simp[Iz,hE2],rfl⟩
       . exact((Kept.drew K w).trans (Kept.drew K w.drew)).trans (Kept.alloc (by simpa using H.kb) _)
     . cases hx2
   ·
     rename_i x y;obtain⟨t,ht,hx1⟩:=ah.1 hx;obtain⟨d,hd,hx2⟩:=ah.1 hx1;have hPt:=ok.und t d (bV.1 hd);have ht:=bV.1 ht;split at hx2
     . rename_i e;obtain⟨sz,hsz,hx3⟩:=ah.1 hx2;obtain⟨_,hck,hx4⟩:=ah.1 hx3;clear hx hx1 hx2 hx3;have hs0:sz≠0:=by
         intro e;subst e;simp[R.check]at hck
       have hnone:∀(E:Env) (a b:Option Addr) (la lb ca cb:Nat),(a=none\/b=none)->((mN 4 fn #[.slice a la ca, .slice b lb cb]).run P w)= .ok (.bool false) w:=by
         intro E a b la lb ca cb hab;show(Extern.SlicesOverlaps.overlaps fn.params fn.resultTypes #[.slice a la ca, .slice b lb cb]).run P w=_
         rw[Gu];simp only[ht,Sem.run_bind,underlying,run_program,Result.andThen_ok,hPt,Sem.run_pure,ja ok hsz];rcases hab with rfl|rfl
         . rfl
         . cases a<;>rfl
       split at hx4
       . cases hx4;refine⟨(0,0),fun E K H _=>⟨by omega,w,?_,H,Kept.refl K w⟩⟩;rw[hrun];simp only[bE,dy,ae];rw[hnone E _ _ _ _ _ _ (.inl rfl)];rfl
       . cases hx4;refine⟨(0,0),fun E K H _=>⟨by omega,w,?_,H,Kept.refl K w⟩⟩;rw[hrun];simp only[bE,dy,ae];rw[hnone E _ _ _ _ _ _ (.inl rfl)];rfl
       . cases hx4;refine⟨(0,0),fun E K H _=>⟨by omega,w,?_,H,Kept.refl K w⟩⟩;rw[hrun];simp only[bE,dy,ae];rw[hnone E _ _ _ _ _ _ (.inr rfl)];rfl
       . rename_i a i n ca b j m cb;split at hx4
         . rename_i ha hb';have hsame:h'=h:=by
            cases hc:(Nat.beq n 0||Nat.beq m 0)<;>rw[hc]at hx4<;>cases hx4<;>rfl
           subst hsame;refine⟨(0,0),fun E K H _=>⟨by omega,w,?_,H,Kept.refl K w⟩⟩;rw[hrun];simp only[bE,dy,ae];have hgo:((mN 4 fn #[.slice (some ⟨E.aN a,i,none⟩) n (ca.val (E.cap a)), .slice (some ⟨E.aN b,j,none⟩) m (cb.val (E.cap b))]).run P w)= .ok (ae E v) w:=by
            show(Extern.SlicesOverlaps.overlaps fn.params fn.resultTypes #[.slice (some ⟨E.aN a,i,none⟩) n (ca.val (E.cap a)), .slice (some ⟨E.aN b,j,none⟩) m (cb.val (E.cap b))]).run P w=_
            rw[Gu];simp only[ht,Sem.run_bind,underlying,run_program,Result.andThen_ok,hPt,Sem.run_pure,ja ok hsz];by_cases hz:n=0\/m=0
            . rw[if_pos (by rcases hz with h|h<;>simp[h])];have:(Nat.beq n 0||Nat.beq m 0)=true:=by
                rcases hz with rfl|rfl<;>simp
              rw[this]at hx4
              cases hx4;rfl
            . rw[if_neg (by omega)];have h1:Nat.beq n 0=false:=by
                cases hb:Nat.beq n 0
                . rfl
                . exact absurd (.inl (Ad hb)) hz
              have h2:Nat.beq m 0=false:=by
                cases hb:Nat.beq m 0
                . rfl
                . exact absurd (.inr (Ad hb)) hz
              rw[h1,h2]at hx4
              cases hx4;have hfa:=tq H ha i;have hfb:=tq H hb' j;have hfrz:(Go.frozen ⟨E.aN a,i,none⟩).run P w= .ok false w:=by simp[Go.frozen,Sem.run,hfa]
              by_cases hab:a=b
              . subst hab;simp[ae];congr 1<;>(rw[Bh];simp)
              . have hne:E.aN a≠E.aN b:=fun e=>hab (H.inj a b _ _ ha hb' (by simp[AO.ro]) e)
                have hb0:Nat.beq a b=false:=by
                  cases hb:Nat.beq a b
                  . rfl
                  . exact absurd (Ad hb) hab
                simp[ae,hne,hb0,hfrz,sR H ha,sR H hb',yI H ha hb']
           rw[hgo];rfl
         . cases hx4
       . cases hx4
     . cases hx2
   ·
     rename_i a c
     cases hx;refine⟨(0,0),fun E K H _=>⟨by omega,w,?_,H,Kept.refl K w⟩⟩;rw[hrun];have hgo:(mN 5 fn #[.string ⟨a.toArray⟩, .int .u8 c]).run P w= .ok (.int .i64 (xr ⟨a.toArray⟩ c.toNat.toUInt8)) w:=by
       show(Extern.BytealgIndexByte.indexByte #[.string ⟨a.toArray⟩, .int .u8 c]).run P w=_
       rw[OW];unfold xr;simp only[Extern.Bytes.bytesOf,Extern.Bytes.asByte,Sem.run_bind,Sem.run_pure,Result.andThen_ok];generalize List.find? (fun i=>(ByteArray.mk a.toArray)[i]! ==c.toNat.toUInt8) (List.range (ByteArray.mk a.toArray).size)=r
       cases r<;>rfl
     simp only[bE,dy,ae];rw[hgo];rfl
   . cases hx
 . cases hx
end
end
def T.cG {α:Type}:(Nat->Option α)->T α->T α
 |_, .e=> .e
 |f, .n v l r=> .n (match v with|none=>none|some _=>f 0) (T.cG (fun k=>f (2*k+1)) l) (T.cG (fun k=>f (2*k+2)) r)
def T.all {α:Type} (p:α->Bool):T α->Bool
 | .e=>true
 | .n v l r=>(match v with|none=>true|some a=>p a)&&T.all p l&&T.all p r
theorem iW {α:Type}:∀(t:T α) (f:Nat->Option α),T.cG f t=t->∀k v,t.get k=some v->f k=some v:=by
 intro t;induction t with
 |e=>intro f _ k v h;simp[iq]at h
 |n x l r ihl ihr=>
  intro f h k v hk;simp only[T.cG,T.n.injEq]at h;obtain⟨h1,h2,h3⟩:=h;rw[iY]at hk;split at hk
  . rename_i h0;subst h0;subst hk;exact h1
  . split at hk
    . have:=ihl _ h2 _ _ hk;rw[show 2*(k / 2)+1=k from by omega]at this;exact this
    . have:=ihr _ h3 _ _ hk;rw[show 2*(k / 2 - 1)+2=k from by omega]at this;exact this
theorem PO {α:Type} {p:α->Bool}:∀(t:T α),T.all p t=true->∀k v,t.get k=some v->p v=true:=by
 intro t;induction t with
 |e=>intro _ k v h;simp[iq]at h
 |n x l r ihl ihr=>
  intro h k v hk;simp only[T.all,Ab]at h;obtain⟨⟨h1,h2⟩,h3⟩:=h;rw[iY]at hk;split at hk
  . subst hk;exact h1
  . split at hk
    . exact ihl h2 _ _ hk
    . exact ihr h3 _ _ hk
theorem bC.of {P:Program} {tab:aR} (h1:tab.und.cG P.underlying=tab.und) (h2:tab.siz.cG (fun t=>(P.info? t).map (·.size))=tab.siz) (h3:tab.byt.cG (fun t=>(P.info? t).map (·.bytes))=tab.byt)
   (h4:tab.jJ.cG (fun t=>((P.info? t).bind (·.zero)).map ou)=tab.jJ) (h5:tab.agg.cG (fun t=>(P.underlying t).map x6)=tab.agg) (h6:tab.held.cG (fun t=>some (P.stoodInHeld t))=tab.held)
   (h7:tab.jP.cG (fun t=>some (P.eqGuardType P.depth t))=tab.jP) (h8:tab.fns.cG (fun f=>P.funcs[f]?)=tab.fns) (h9:tab.fns.all (fun fn=> !(fn.name== "runtime.NumGoroutine"))=true):bC P tab:=by
 refine⟨iW _ _ h1,?_,?_,?_,?_,?_,?_,iW _ _ h8,?_⟩
 . intro t n h;have:=iW _ _ h2 t n h;simpa [Ap]using this
 . intro t n h;have:=iW _ _ h3 t n h;simpa [Ap]using this
 . intro t z h;have:=iW _ _ h4 t z h;simp only[Ap,Ec]at this;obtain⟨v,⟨i,hi,hv⟩,rfl⟩:=this;exact⟨i,hi,fun E=>by rw[yP];exact hv⟩
 . intro t b h;have:=iW _ _ h5 t b h;simpa [Ap]using this
 . intro t b h;have:=iW _ _ h6 t b h;simpa using this
 . intro t b h;have:=iW _ _ h7 t b h;simpa using this
 . intro f fn h;have:=PO _ h9 f fn h;simpa using this
theorem ft.of {P:Program} {tab:aR} (l:List (Nat×Nat)) (hl:∀f tag,tab.ext.get f=some tag->(f,tag)∈l) (hf:∀x∈l,∀fn,tab.fns.get x.1=some fn->Extern.findNext fn=none/\Extern.find fn=some (mN x.2 fn)):ft P tab:=
 fun f tag fn h1 h2=>hf (f,tag) (hl f tag h1) fn h2
def ef:AH:={t:= .e,next:=0}
theorem C5 (E:Env) (K:KS) (w:World) (hK:∀b,K b->b<w.heap.size) (hk0:∀b,b<K.b->K b):bm E ef K w:=by
 have h0:∀i,ef.get i=none:=fun i=>rfl
 refine⟨fun i o h=>?_,fun i o h=>?_,fun i j oi oj h=>?_,fun i o h=>?_,hK,fun i o h=>?_,hk0⟩<;>(rw[h0]at h;cases h)
def qf:List (Nat×Nat)->T Nat
 |[]=> .e
 |(f,t)::l=>(qf l).set f (some t)
theorem KO:∀(l:List (Nat×Nat)) (f tag:Nat),(qf l).get f=some tag->(f,tag)∈l:=by
 intro l;induction l with
 |nil=>intro f tag h;simp[qf,iq]at h
 |cons x l ih=>
  intro f tag h;obtain⟨a,b⟩:=x;simp only[qf,T.aO]at h;split at h
  . rename_i e;subst e
    cases h;exact An
  . exact Al _ (ih f tag h)
theorem Qj {P:Program} {tab:aR} (l:List (Nat×Nat)) (hl:tab.ext=qf l) (hf:∀x∈l,∃fn,tab.fns.get x.1=some fn/\Extern.findNext fn=none/\Extern.find fn=some (mN x.2 fn)):ft P tab:=
 ft.of l (fun f tag h=>KO l f tag (by rw[<-hl];exact h)) (fun x hx fn h=>by
  obtain⟨fn',h1,h2⟩:=hf x hx;rw[h1]at h
  cases h;exact h2)
end Go.Am
namespace Go.Proofs
open Go.Am
open Tryz
def nd {α:Type} (x:α) (l r:T α):T α:= .n (some x) l r
def lf {α:Type} (x:α):T α:= .n (some x) .e .e
noncomputable def P7:T TypeDesc:=(nd t0.desc (nd t1.desc (nd t3.desc (nd t7.desc (.n none .e (nd t47.desc .e (.n none .e (lf t239.desc)))) (nd t23.desc (nd t38.desc (.n none (lf t135.desc) (lf t199.desc)) (.n none (lf t167.desc) .e)) (.n none (.n none .e (lf t215.desc)) .e))) (.n none (.n none (nd t34.desc .e (lf t99.desc)) (.n none (.n none (lf t147.desc) .e) .e)) (nd t27.desc (.n none .e (.n none .e (lf t217.desc))) (.n none .e (.n none (lf t187.desc) (lf t251.desc)))))) (nd t5.desc (nd t9.desc (.n none (lf t32.desc) .e) (.n none (nd t41.desc (.n none (lf t137.desc) .e) (lf t104.desc)) (.n none (.n none .e (lf t217.desc)) .e))) (.n none (.n none (nd t36.desc (.n none .e (lf t197.desc)) (lf t101.desc)) (.n none (.n none (lf t148.desc) .e) .e)) (nd t3.desc (.n none (.n none .e (lf t204.desc)) .e) .e)))) (nd t2.desc (nd t4.desc (.n none (.n none (nd t32.desc .e (.n none (lf t160.desc) .e)) (nd t47.desc (.n none .e (lf t3.desc)) .e)) (nd t23.desc (nd t40.desc .e (lf t104.desc)) .e)) (.n none (.n none (nd t36.desc .e (lf t100.desc)) (nd t52.desc (.n none (lf t148.desc) .e) .e)) (.n none (.n none (.n none .e (lf t204.desc)) .e) .e))) (nd t5.desc (.n none (.n none (nd t34.desc .e (.n none (lf t162.desc) .e)) .e) (.n none (nd t41.desc (.n none (lf t137.desc) (lf t202.desc)) (lf t106.desc)) (.n none .e (lf t122.desc)))) (.n none (nd t22.desc (nd t38.desc (lf t70.desc) (lf t102.desc)) .e) .e))))
noncomputable def P6:T Nat:=(nd 1 (nd 1 (nd 1 (nd 4 (.n none .e (nd 11 .e (.n none .e (lf 1)))) (nd 3 (nd 8 (.n none (lf 1) (lf 1)) (.n none (lf 1) .e)) (.n none (.n none .e (lf 1)) .e))) (.n none (.n none (nd 3 .e (lf 1)) (.n none (.n none (lf 1) .e) .e)) (nd 1 (.n none .e (.n none .e (lf 1))) (.n none .e (.n none (lf 1) (lf 1)))))) (nd 1 (nd 1 (.n none (lf 2) .e) (.n none (nd 19 (.n none (lf 1) .e) (lf 4)) (.n none (.n none .e (lf 1)) .e))) (.n none (.n none (nd 3 (.n none .e (lf 1)) (lf 1)) (.n none (.n none (lf 1) .e) .e)) (nd 1 (.n none (.n none .e (lf 1)) .e) .e)))) (nd 1 (nd 1 (.n none (.n none (nd 2 .e (.n none (lf 1) .e)) (nd 11 (.n none .e (lf 1)) .e)) (nd 3 (nd 1 .e (lf 4)) .e)) (.n none (.n none (nd 3 .e (lf 1)) (nd 1 (.n none (lf 1) .e) .e)) (.n none (.n none (.n none .e (lf 1)) .e) .e))) (nd 1 (.n none (.n none (nd 3 .e (.n none (lf 1) .e)) .e) (.n none (nd 19 (.n none (lf 1) (lf 1)) (lf 1)) (.n none .e (lf 1)))) (.n none (nd 1 (nd 8 (lf 1) (lf 1)) .e) .e))))
noncomputable def P2:T Nat:=(nd 0 (nd 8 (nd 8 (nd 24 (.n none .e (nd 96 .e (.n none .e (lf 8)))) (nd 48 (nd 48 (.n none (lf 8) (lf 24)) (.n none (lf 8) .e)) (.n none (.n none .e (lf 4)) .e))) (.n none (.n none (nd 24 .e (lf 8)) (.n none (.n none (lf 8) .e) .e)) (nd 8 (.n none .e (.n none .e (lf 8))) (.n none .e (.n none (lf 8) (lf 8)))))) (nd 1 (nd 16 (.n none (lf 16) .e) (.n none (nd 176 (.n none (lf 8) .e) (lf 32)) (.n none (.n none .e (lf 8)) .e))) (.n none (.n none (nd 24 (.n none .e (lf 8)) (lf 8)) (.n none (.n none (lf 8) .e) .e)) (nd 8 (.n none (.n none .e (lf 8)) .e) .e)))) (nd 8 (nd 1 (.n none (.n none (nd 16 .e (.n none (lf 24) .e)) (nd 96 (.n none .e (lf 8)) .e)) (nd 48 (nd 24 .e (lf 32)) .e)) (.n none (.n none (nd 24 .e (lf 8)) (nd 24 (.n none (lf 8) .e) .e)) (.n none (.n none (.n none .e (lf 8)) .e) .e))) (nd 1 (.n none (.n none (nd 24 .e (.n none (lf 8) .e)) .e) (.n none (nd 176 (.n none (lf 8) (lf 24)) (lf 8)) (.n none .e (lf 8)))) (.n none (nd 24 (nd 48 (lf 24) (lf 8)) .e) .e))))
noncomputable def P8:T AV:=(nd (.bB []) (nd (.bA) (nd (.int .i64 0) (nd (.agg [.int .i64 0, .int .i64 0, .bool false, .int .u8 0]) (.n none .e (nd (.agg [.str [], .str [], .str [], .str [], .bool false, .bool false, .bool false, .bool false, .int .i64 0, .int .i64 0, .int .i64 0]) .e (.n none .e (lf (.aQ))))) (nd (.agg [.str [], .str [], .str []]) (nd (.agg [.str [], .bool false, .bool false, .bool false, .bool false, .int .i64 0, .int .i64 0, .int .i64 0]) (.n none (lf (.bg)) (lf (.nils))) (.n none (lf (.bA)) .e)) (.n none (.n none .e (lf (.int .u32 0))) .e))) (.n none (.n none (nd (.agg [.int .i64 0, .int .i64 0, .int .i64 0]) .e (lf (.bg))) (.n none (.n none (lf (.bg)) .e) .e)) (nd (.aQ) (.n none .e (.n none .e (lf (.int .u64 0)))) (.n none .e (.n none (lf (.int .u64 0)) (lf (.aQ))))))) (nd (.int .u8 0) (nd (.str []) (.n none (lf (.agg [.int .i64 0, .int .i64 0])) .e) (.n none (nd (.agg [.int .i64 0, .int .i64 0, .int .i64 0, .int .i64 0, .int .i64 0, .int .i64 0, .int .i64 0, .str [], .str [], .str [], .str [], .bool false, .bool false, .bool false, .bool false, .int .i64 0, .int .i64 0, .int .i64 0, .nils]) (.n none (lf (.bA)) .e) (lf (.agg [.bg, .bg, .bg, .aQ]))) (.n none (.n none .e (lf (.int .u64 0))) .e))) (.n none (.n none (nd (.agg [.int .i64 0, .int .i64 0, .int .i64 0]) (.n none .e (lf (.bA))) (lf (.bg))) (.n none (.n none (lf (.agg [.bg])) .e) .e)) (nd (.int .i64 0) (.n none (.n none .e (lf (.bA))) .e) .e)))) (nd (.int .i64 0) (nd (.bool false) (.n none (.n none (nd (.agg [.int .i64 0, .int .i64 0]) .e (.n none (lf (.nils)) .e)) (nd (.agg [.str [], .str [], .str [], .str [], .bool false, .bool false, .bool false, .bool false, .int .i64 0, .int .i64 0, .int .i64 0]) (.n none .e (lf (.int .i64 0))) .e)) (nd (.agg [.str [], .str [], .str []]) (nd (.nils) .e (lf (.agg [.bg, .bg, .bg, .aQ]))) .e)) (.n none (.n none (nd (.agg [.int .i64 0, .int .i64 0, .int .i64 0]) .e (lf (.bg))) (nd (.nils) (.n none (lf (.agg [.bg])) .e) .e)) (.n none (.n none (.n none .e (lf (.bA))) .e) .e))) (nd (.int .u8 0) (.n none (.n none (nd (.agg [.int .i64 0, .int .i64 0, .int .i64 0]) .e (.n none (lf (.bA)) .e)) .e) (.n none (nd (.agg [.int .i64 0, .int .i64 0, .int .i64 0, .int .i64 0, .int .i64 0, .int .i64 0, .int .i64 0, .str [], .str [], .str [], .str [], .bool false, .bool false, .bool false, .bool false, .int .i64 0, .int .i64 0, .int .i64 0, .nils]) (.n none (lf (.bA)) (lf (.nils))) (lf (.bA))) (.n none .e (lf (.bA))))) (.n none (nd (.nils) (nd (.agg [.str [], .bool false, .bool false, .bool false, .bool false, .int .i64 0, .int .i64 0, .int .i64 0]) (lf (.nils)) (lf (.aQ))) .e) .e))))
noncomputable def P1:T Bool:=(nd false (nd false (nd false (nd true (.n none .e (nd true .e (.n none .e (lf false)))) (nd true (nd true (.n none (lf false) (lf false)) (.n none (lf false) .e)) (.n none (.n none .e (lf false)) .e))) (.n none (.n none (nd true .e (lf false)) (.n none (.n none (lf false) .e) .e)) (nd false (.n none .e (.n none .e (lf false))) (.n none .e (.n none (lf false) (lf false)))))) (nd false (nd false (.n none (lf true) .e) (.n none (nd true (.n none (lf false) .e) (lf true)) (.n none (.n none .e (lf false)) .e))) (.n none (.n none (nd true (.n none .e (lf false)) (lf false)) (.n none (.n none (lf true) .e) .e)) (nd false (.n none (.n none .e (lf false)) .e) .e)))) (nd false (nd false (.n none (.n none (nd true .e (.n none (lf false) .e)) (nd true (.n none .e (lf false)) .e)) (nd true (nd false .e (lf true)) .e)) (.n none (.n none (nd true .e (lf false)) (nd false (.n none (lf true) .e) .e)) (.n none (.n none (.n none .e (lf false)) .e) .e))) (nd false (.n none (.n none (nd true .e (.n none (lf false) .e)) .e) (.n none (nd true (.n none (lf false) (lf false)) (lf false)) (.n none .e (lf false)))) (.n none (nd false (nd true (lf false) (lf false)) .e) .e))))
noncomputable def QA:T Bool:=(nd false (nd false (nd false (nd false (.n none .e (nd false .e (.n none .e (lf false)))) (nd false (nd false (.n none (lf false) (lf false)) (.n none (lf false) .e)) (.n none (.n none .e (lf false)) .e))) (.n none (.n none (nd false .e (lf false)) (.n none (.n none (lf false) .e) .e)) (nd false (.n none .e (.n none .e (lf false))) (.n none .e (.n none (lf false) (lf false)))))) (nd false (nd false (.n none (lf false) .e) (.n none (nd false (.n none (lf false) .e) (lf false)) (.n none (.n none .e (lf false)) .e))) (.n none (.n none (nd false (.n none .e (lf false)) (lf false)) (.n none (.n none (lf false) .e) .e)) (nd false (.n none (.n none .e (lf false)) .e) .e)))) (nd false (nd false (.n none (.n none (nd false .e (.n none (lf false) .e)) (nd false (.n none .e (lf false)) .e)) (nd false (nd false .e (lf false)) .e)) (.n none (.n none (nd false .e (lf false)) (nd false (.n none (lf false) .e) .e)) (.n none (.n none (.n none .e (lf false)) .e) .e))) (nd false (.n none (.n none (nd false .e (.n none (lf false) .e)) .e) (.n none (nd false (.n none (lf false) (lf false)) (lf false)) (.n none .e (lf false)))) (.n none (nd false (nd false (lf false) (lf false)) .e) .e))))
noncomputable def P5:T Bool:=(nd false (nd false (nd false (nd false (.n none .e (nd false .e (.n none .e (lf false)))) (nd false (nd false (.n none (lf false) (lf false)) (.n none (lf false) .e)) (.n none (.n none .e (lf false)) .e))) (.n none (.n none (nd false .e (lf false)) (.n none (.n none (lf false) .e) .e)) (nd false (.n none .e (.n none .e (lf false))) (.n none .e (.n none (lf false) (lf false)))))) (nd false (nd false (.n none (lf false) .e) (.n none (nd false (.n none (lf false) .e) (lf false)) (.n none (.n none .e (lf false)) .e))) (.n none (.n none (nd false (.n none .e (lf false)) (lf false)) (.n none (.n none (lf false) .e) .e)) (nd false (.n none (.n none .e (lf false)) .e) .e)))) (nd false (nd false (.n none (.n none (nd false .e (.n none (lf false) .e)) (nd false (.n none .e (lf false)) .e)) (nd false (nd false .e (lf false)) .e)) (.n none (.n none (nd false .e (lf false)) (nd false (.n none (lf false) .e) .e)) (.n none (.n none (.n none .e (lf false)) .e) .e))) (nd false (.n none (.n none (nd false .e (.n none (lf false) .e)) .e) (.n none (nd false (.n none (lf false) (lf false)) (lf false)) (.n none .e (lf false)))) (.n none (nd false (nd false (lf false) (lf false)) .e) .e))))
noncomputable def P4:T Func:=(.n none (.n none (.n none (.n none (nd f15 (.n none (.n none (.n none (lf f255) .e) (lf f191)) (.n none (lf f159) (lf f223))) (nd f47 (.n none (lf f143) (lf f207)) (nd f111 (lf f175) .e))) (nd f23 (.n none (nd f71 (nd f135 (lf f263) .e) .e) (.n none (lf f167) (lf f231))) (nd f55 (.n none .e (lf f215)) (nd f119 (lf f183) (lf f247))))) (.n none (.n none (.n none (nd f67 (.n none (lf f259) .e) .e) (lf f99)) (nd f51 (.n none (lf f147) (lf f211)) .e)) (.n none (.n none (nd f75 (nd f139 (lf f267) .e) .e) (nd f107 (lf f171) (lf f235))) (.n none (.n none (lf f155) (lf f219)) (nd f123 (lf f187) (lf f251)))))) (.n none (nd f9 (.n none (.n none (nd f65 (.n none (lf f257) .e) (lf f193)) (nd f97 .e (lf f225))) (nd f49 (.n none (lf f145) (lf f209)) (.n none (lf f177) .e))) (.n none (.n none (nd f73 (nd f137 (lf f265) .e) .e) (.n none (lf f169) (lf f233))) (.n none (.n none (lf f153) (lf f217)) (.n none (lf f185) (lf f249))))) (nd f13 (nd f21 (nd f37 (nd f69 (.n none (lf f261) .e) .e) (nd f101 .e (lf f229))) (nd f53 (.n none .e (lf f213)) (.n none (lf f181) (lf f245)))) (.n none (.n none (nd f77 (nd f141 (lf f269) .e) .e) (nd f109 (lf f173) .e)) (.n none (.n none .e (lf f221)) (.n none (lf f189) (lf f253))))))) (.n none (.n none (.n none (.n none (.n none (nd f64 .e (lf f192)) (nd f96 .e (lf f224))) (nd f48 (nd f80 (lf f144) (lf f208)) (nd f112 (lf f176) .e))) (nd f24 (nd f40 (nd f72 (nd f136 (lf f264) .e) .e) (.n none (lf f168) (lf f232))) (.n none (.n none .e (lf f216)) (nd f120 (lf f184) (lf f248))))) (.n none (.n none (.n none (nd f68 (.n none (lf f260) .e) .e) (lf f100)) (nd f52 (.n none .e (lf f212)) (.n none .e (lf f244)))) (.n none (.n none (.n none (nd f140 (lf f268) .e) .e) (nd f108 (lf f172) (lf f236))) (.n none (.n none (lf f156) (lf f220)) (.n none (lf f188) .e))))) (.n none (.n none (.n none (.n none (nd f66 (.n none (lf f258) .e) (lf f194)) (lf f98)) (nd f50 (nd f82 (lf f146) (lf f210)) .e)) (.n none (.n none (.n none (nd f138 (lf f266) .e) .e) (.n none (lf f170) (lf f234))) (.n none (.n none (lf f154) (lf f218)) (nd f122 (lf f186) (lf f250))))) (nd f14 (.n none (.n none (nd f70 (.n none (lf f262) .e) .e) (.n none .e (lf f230))) (nd f54 (.n none .e (lf f214)) (.n none (lf f182) (lf f246)))) (.n none (.n none (nd f78 (nd f142 (lf f270) .e) .e) (nd f110 (lf f174) .e)) (.n none (nd f94 (lf f158) (lf f222)) (.n none (lf f190) (lf f254))))))))
noncomputable def P3:T Nat:=qf [(136,4),(244,1)]
noncomputable def Tryz.tab:aR:={und:=P7,siz:=P6,byt:=P2,jJ:=P8,agg:=P1,cmp:= .e,held:=QA,jP:=P5,fns:=P4,ext:=P3,merge:=fun _=>false}
end Go.Proofs
namespace Go.Proofs
open Go Go.Am
def yg:FuncId:=9
def o5:FuncId:=13
def pk:FuncId:=21
def pe:FuncId:=23
def ly:FuncId:=24
def lq:FuncId:=37
def lr:FuncId:=40
def rY:FuncId:=47
def Hi:FuncId:=48
def lC:FuncId:=49
def oY:FuncId:=50
def lk:FuncId:=51
def o6:FuncId:=52
def lj:FuncId:=53
def rR:FuncId:=54
def jv:FuncId:=55
def rX:FuncId:=65
def oP:FuncId:=75
def rP:FuncId:=78
def rL:FuncId:=80
def mU:FuncId:=82
def pc:FuncId:=94
def pa:FuncId:=96
def Hb:FuncId:=107
def rU:FuncId:=108
def o9:FuncId:=109
def rQ:FuncId:=110
def rZ:FuncId:=119
def ye:FuncId:=122
def oO:FuncId:=123
def pb:FuncId:=135
def Ha:FuncId:=141
def Hg:FuncId:=143
def sb:FuncId:=144
def rO:FuncId:=145
def oW:FuncId:=146
def Pg:FuncId:=147
def rV:FuncId:=154
def oR:FuncId:=155
def oS:FuncId:=167
def Hc:FuncId:=171
def rS:FuncId:=172
def lB:FuncId:=173
def oX:FuncId:=174
def oV:FuncId:=175
def mV:FuncId:=176
def ph:FuncId:=177
def o8:FuncId:=184
def lu:FuncId:=207
def uX:FuncId:=208
def rW:FuncId:=219
def lx:FuncId:=221
def lA:FuncId:=222
def lp:FuncId:=223
def rT:FuncId:=224
def lv:FuncId:=225
def yd:FuncId:=230
def pj:FuncId:=249
def ln:FuncId:=250
def ll:FuncId:=251
def oZ:FuncId:=258
def Ty.string:TypeId:=9
def rI:TypeId:=24
def lG:TypeId:=33
def Ty.lH:TypeId:=35
def Hp:TypeId:=42
def ya:TypeId:=48
def QL:TypeId:=126
noncomputable abbrev oL:aR:=Tryz.tab
theorem Tryz.h1:Tryz.tab.und.cG Tryz.prog.underlying=Tryz.tab.und:=by kernel_rfl
theorem Tryz.h2:Tryz.tab.siz.cG (fun t=>(Tryz.prog.info? t).map (·.size))=Tryz.tab.siz:=by kernel_rfl
theorem Tryz.h3:Tryz.tab.byt.cG (fun t=>(Tryz.prog.info? t).map (·.bytes))=Tryz.tab.byt:=by kernel_rfl
theorem Tryz.h4:Tryz.tab.jJ.cG (fun t=>((Tryz.prog.info? t).bind (·.zero)).map ou)=Tryz.tab.jJ:=by kernel_rfl
theorem Tryz.h5:Tryz.tab.agg.cG (fun t=>(Tryz.prog.underlying t).map x6)=Tryz.tab.agg:=by kernel_rfl
theorem Tryz.h6:Tryz.tab.held.cG (fun t=>some (Tryz.prog.stoodInHeld t))=Tryz.tab.held:=by kernel_rfl
theorem Tryz.h7:Tryz.tab.jP.cG (fun t=>some (Tryz.prog.eqGuardType Tryz.prog.depth t))=Tryz.tab.jP:=by kernel_rfl
theorem Tryz.h8:Tryz.tab.fns.cG (fun f=>Tryz.prog.funcs[f]?)=Tryz.tab.fns:=by kernel_rfl
theorem Tryz.h9:Tryz.tab.fns.all (fun fn=> !(fn.name== "runtime.NumGoroutine"))=true:=by kernel_rfl
theorem Tryz.iU:bC Tryz.prog Tryz.tab:=bC.of Tryz.h1 Tryz.h2 Tryz.h3 Tryz.h4 Tryz.h5 Tryz.h6 Tryz.h7 Tryz.h8 Tryz.h9
end Go.Proofs
