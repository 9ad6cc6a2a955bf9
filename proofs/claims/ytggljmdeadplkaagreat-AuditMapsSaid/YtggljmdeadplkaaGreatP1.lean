/- Part 1: an evaluator, proved sound, and its use at this seat; no condition. -/
import Derived.Laws.Externs
import Derived.Lib.Bytealg
import Derived.Test.YtggljmdeadplkaaGreatProg
import Derived.KernelRfl
import Derived.Test.YtggljmdeadplkaaGreatP0
set_option linter.unusedSimpArgs false
set_option linter.unusedVariables false
set_option linter.unusedSectionVars false
set_option linter.deprecated false
set_option maxRecDepth 100000
namespace Go.Am
open Go.RowKit
section
variable [Inhabited aI]
section
variable {P:Program} {tab:bc} (ok:bD P tab) {sub:FuncId->List AV->AH->R (List (AV×AH))} (hsub:jy P tab sub) (hext:jx P tab)
variable {D:Nat->Prop} {E:Env} {K:KS} {base:List Frame} {frC:Frame} {csC:List Frame} {w:World}
variable {ops:Array Oper} {fr0:af} {cs:List af} {k:List bq} {lo:Nat} {s:DS} {X:Nat->Prop} {tsR:T AV} {hR:AH} {j:Nat} {l:List Nat} {o:Oper} {v:AV}
def p8 (P:Program) (ops:Array Oper) (fr0:af) (cs:List af) (k:List bq) (base:List Frame) (s:DS) (X:Nat->Prop) (D:Nat->Prop) (E:Env) (K:KS) (lo:Nat) (l:List Nat) (frC:Frame) (csC:List Frame) (w:World):Prop:=
 ∃tsR' hR' frC' csC' w' D' E',Steps P (lone frC csC w) (lone frC' csC' w')/\dX ops fr0 cs k base s X D' E' K tsR' hR' l frC' csC' w'/\aj D E E'/\(∀i,D i->D' i)/\Kept K w w'/\(∀i,D' i->D i\/lo<=i)
include ok in
theorem Cl (H:cP tab ops fr0.nt fr0.tmps lo s X) (R:dX ops fr0 cs k base s X D E K tsR hR (j::l) frC csC w) (hm:fr0.mode= .run) (ho:ops[j]? =some o) (hC:(s.aD.get j).isSome) (hx:¬X j)
   (hready:∀p∈gx o,X p):p8 P ops fr0 cs k base s (fun i=>X i\/i=j) D E K lo l frC csC w:=by
 obtain⟨o',tj,v,ho',hdst,hlook,hkind⟩:=H.jH j hC hx;rw[ho]at ho'
 cases ho';have hl:=Kv H R hlook hx hready;obtain⟨hops,hwant⟩:=wk hl;obtain⟨htr1,htr0⟩:=Pc H R hC ho hdst;have hfin:=vR (fr0:=fr0) (tsR:=tsR) (l:=l) (k:=k) ho v;have hdomR:=(R.rel.all E (aj.refl _ _)).1.dM;have wrap:∀(N:Nat->Prop) (hR2:AH),rU P (lone frC csC w) D N E K {fr:={fr0 with tmps:=gB fr0.nt tsR o v,todo:= .inRegion ops l::k},cs,h:=hR2} base w->
     (∀i ob,hR2.get i=some ob↔s.h.get i=some ob/\ ∀x∈s.ay,x.2=i->X x.1\/x.1=j)->hR2.next=s.h.next->(∀i,N i->(j,i)∈s.ay)->
     p8 P ops fr0 cs k base s (fun i=>X i\/i=j) D E K lo l frC csC w:=by
   intro N hR2 hg hchar hnx hN;obtain⟨frC',csC',w',E1,s1,s2,s3,s4⟩:=hg;refine⟨_,hR2,frC',csC',w',_,E1,s1,⟨s2,hchar,hnx,htr1,htr0,?_⟩,s3,fun i hi=> .inl hi,s4,fun i hi=>hi.elim .inl (fun h=> .inr ((H.al _ (hN i h)).2.2))⟩;rintro x hxm hnx' (hd|hn)
   . exact R.dp x hxm (fun h=>hnx' (.inl h)) hd
   . have:=H.pz x hxm _ (hN _ hn) rfl;grind
 have hcharA:(∀x∈s.ay,x.1≠j)->∀i ob,hR.get i=some ob↔s.h.get i=some ob/\ ∀x∈s.ay,x.2=i->X x.1\/x.1=j:=by
   intro hno i ob;rw[R.hr i ob];grind
 rcases hkind with⟨hw,rfl,hno⟩|⟨hw,hk⟩
 . exact wrap _ hR (Ld R.rel hm rfl ho (by rw[hwant];exact hw) hfin) (hcharA hno) R.hn (fun _ h=>h.elim)
 . have a:=ku R.rel hm rfl ho (by rw[hwant];exact hw);rcases hk with⟨⟨h1,hp,hn1⟩,hno⟩|⟨b,h1,ob,⟨hb1,hb2⟩,hp,hn1,hob,hsb⟩|⟨⟨_,hno⟩,_,_,hr,hp,hrr⟩
   . refine wrap _ hR (qW ok R.rel a (h0:={t:= .e,next:=0}) (h1:=h1) (h2:=hR) (by rw[qX o hops];exact hp) hfin ?_ ?_ ?_ (fun i o h=> .inl (hdomR i o h)) (fun _=>False) ?_ (fun _ h=>h.elim) (fun i hi=>hi.elim (R.rel.dM i) False.elim)) (hcharA hno) R.hn (fun _ h=>h.elim)
     . intro i o' h;cases h
     . intro i o' h;cases h
     . intro i o' h;exact .inr ⟨h,rfl⟩
     omega
   . have hbn:=(H.al _ hb1).1;have hget:∀i,(hR.set b ob).get i=if i=b then some ob else hR.get i:=fun i=>AH.aT _ _ _ _
     refine wrap (fun i=>i=b) (hR.set b ob) (qW ok R.rel a (h0:={t:= .e,next:=b}) (h1:=h1) (h2:=hR.set b ob) (by rw[qX o hops];exact hp) hfin ?_ ?_ ?_ ?_ (fun i=>i=b) ?_ ?_ ?_) ?_ R.hn ?_
     . intro i o' h;cases h
     . intro i o' h;cases h
     . intro i o' h;rw[hget]at h;by_cases e:i=b
       . grind
       . rw[Ai e]at h;exact .inr ⟨h,rfl⟩
     . intro i o' h;rw[hget]at h;simp only[AH.dQ];by_cases e:i=b
       . rw[e,R.hn];omega
       grind
     . grind
     . rintro i rfl;exact⟨rfl,R.dp _ hb1 hx⟩
     . rintro i (hi|rfl)
       . exact R.rel.dM i hi
       . simp only[AH.dQ];rw[R.hn];omega
     . intro i ob';rw[hget];by_cases e:i=b
       . subst e;rw[An rfl,hsb];constructor
         . intro h;refine⟨h,fun x hx e=> .inr ?_⟩;rw[H.pz x hx _ hb1 e]
         grind
       . rw[Ai e,R.hr i ob'];grind
     grind
   . refine wrap _ hR (qW ok R.rel a (h0:=hr) (h1:=hr) (h2:=hR) (by rw[qX o hops];exact hp) hfin ?_ ?_ ?_ (fun i o h=> .inl (hdomR i o h)) (fun _=>False) ?_ (fun _ h=>h.elim) (fun i hi=>hi.elim (R.rel.dM i) False.elim)) (hcharA hno) R.hn (fun _ h=>h.elim)
     . grind
     . grind
     . intro i o' h
       cases hg:hr.get i with
       |none=>grind
       | some ob'=>
         grind
     omega
end
end
section
variable [Inhabited aI]
section
variable {tab:bc} {ops:Array Oper} {nt lo:Nat} {ts0:T AV} {s s':DS} {X:Nat->Prop} {i:Nat} {o:Oper} {v:AV}
theorem cP.jq (H:cP tab ops nt ts0 lo s X) (hi:ops[i]? =some o) (hr:isReady s.aD i o=true) (hok:ia s.aD ops i o=true) (hanX:∀p∈dS s.aD o,X p)
   (e1:s'.ts=gB nt s.ts o v) (e2:s'.aD=s.aD.set i (some (dS s.aD o))) (en:s.h.next<=s'.h.next)
   (ea:∀x∈s'.ay,x∈s.ay) (ea':∀x∈s.ay,x.1∉dS s.aD o->x∈s'.ay) (eh:∀x∈s'.ay,s'.h.get x.2=s.h.get x.2) (hd':∀b ob,s'.h.get b=some ob->b<s'.h.next)
   (er:∀j oj tj vj,(j,tj,vj)∈s.reads->j∉dS s.aD o->ops[j]? =some oj->cls tab oj≠ .jq->cls tab oj≠ .alloc->(j,tj,vj)∈s'.reads/\ ∃hr,eu tab tj hr oj= .ok (vj,hr)/\ ∀b ob,hr.get b=some ob->b<hr.next/\s'.h.get b=some ob/\ ∀x∈s'.ay,x.2≠b):
   cP tab ops nt ts0 lo s' (fun j=>X j\/j=i):=by
 obtain⟨hnone,hpre⟩:=nh hr;obtain⟨hok1,hok2⟩:=uc hok;have hanc:∀j,s'.aD.get j=if j=i then some (dS s.aD o)else s.aD.get j:=by
   grind [T.aT]
 have hold:∀j,(s.aD.get j).isSome->j≠i/\s'.aD.get j=s.aD.get j:=by
   grind
 have hnd:∀j oj d,(s.aD.get j).isSome->ops[j]? =some oj->oj.dst=some d->o.dst≠some d:=by
   grind
 have hts:∀t,o.dst≠some t->s'.ts.get t=s.ts.get t:=by
   grind [jr]
 refine⟨?_,?_,?_,?_,?_,?_,?_,?_,AW H.nx en,?_,?_,hd'⟩
 . rintro j (hj|rfl)
   . rw[(hold j (H.cx j hj)).2];exact H.cx j hj
   grind
 . rintro j a (hj|rfl) ha p hp
   . rw[(hold j (H.cx j hj)).2]at ha;exact .inl (H.oI j a hj ha p hp)
   grind
 . intro j hj;rw[hanc]at hj;by_cases h1:j=i
   . grind
   . rw[Ai h1]at hj;exact H.op j hj
 . intro j a oj ha hoj;rw[hanc]at ha;by_cases h1:j=i
   . grind [eV]
   . rw[Ai h1]at ha;obtain⟨g1,g2⟩:=H.shape j a oj ha hoj;grind
 . intro a b oa ob d ha hoa hob hda hdb;rw[hanc]at ha;by_cases h1:a=i
   . grind
   . rw[Ai h1]at ha;exact H.uniq a b oa ob d ha hoa hob hda hdb
 . intro t ht;have h1:o.dst≠some t:=ht i o (by rw[hanc,An rfl];rfl) hi;rw[hts t h1];exact H.nL t (fun j oj hj hoj=>ht j oj (by rw[(hold j hj).2];exact hj) hoj)
 . intro j hj hx;have h1:j≠i:=fun e=>hx (.inr e)
   have hxj:¬X j:=fun h=>hx (.inl h)
   have hjan:j∉dS s.aD o:=fun h=>hxj (hanX j h)
   have hj':(s.aD.get j).isSome:=by rw[hanc,Ai h1]at hj;exact hj
   obtain⟨oj,tj,vj,g1,g2,g3,g4⟩:=H.jH j hj' hxj;refine⟨oj,tj,vj,g1,?_,?_,?_⟩
   . grind
   . intro t ht;rcases g3 t ht with⟨i1,oi1,k1,k2,k3,k4,k5⟩|⟨k1,k2⟩
     . refine .inl ⟨i1,oi1,k1,k2,k3,by rw[(hold i1 k4).2];exact k4,?_⟩;rw[k5,hts t (hnd i1 oi1 t k4 k1 k2)]
     . refine .inr ⟨k1,?_⟩;intro i' oi a q1 q2 q3;rw[hanc]at q3;by_cases h2:i'=i
       . subst h2;rw[An rfl]at q3;rw[hi]at q1
         cases q1;cases q3;exact .inr ((hok2 t q2 j oj g1).2 hj' ht)
       . rw[Ai h2]at q3;exact k2 i' oi a q1 q2 q3
   . rcases g4 with⟨k1,k2,k3⟩|⟨k1,k2⟩
     . exact .inl ⟨k1,k2,fun x hx=>k3 x (ea x hx)⟩
     . refine .inr ⟨k1,?_⟩;rcases k2 with k2|⟨b,h1',ob,m1,m2,m3,m4,m5⟩|⟨m1,m2,m3,_⟩
       . grind
       . have hm:=ea' _ m1.1 hjan;exact .inr (.inl ⟨b,h1',ob,⟨hm,fun x hx=>m1.2 x (ea x hx)⟩,m2,m3,m4,(eh _ hm).trans m5⟩)
       . obtain⟨q1,q2⟩:=er j oj tj vj m1.1 hjan g1 m2 m3;exact .inr (.inr ⟨⟨q1,fun x hx=>m1.2 x (ea x hx)⟩,m2,m3,q2⟩)
 . intro x hx;have:=H.al x (ea x hx);exact⟨by omega,by rw[(hold _ this.2.1).2];exact this.2.1,this.2.2⟩
 . intro t ht;rw[e1,jr,Ai (fun h=>absurd h.2 (Nat.not_lt.2 ht))];exact H.qB t ht
 . intro x hx y hy e;exact H.pz x (ea x hx) y (ea y hy) e
theorem CI {h:AH}:∀(l:List (Nat×T AV×AV)),reread tab ops h l= .ok ()->∀j tj vj,(j,tj,vj)∈l->∃oj h',ops[j]? =some oj/\eu tab tj h oj= .ok (vj,h'):=by
 intro l;induction l with
 |nil=>grind
 |cons x l ih=>
  grind [reread,ai,lE,c9,cg]
end
end
section
variable [Inhabited aI]
section
variable {P:Program} {tab:bc} (ok:bD P tab) {sub:FuncId->List AV->AH->R (List (AV×AH))} (hsub:jy P tab sub) (hext:jx P tab)
variable {D:Nat->Prop} {E:Env} {K:KS} {base:List Frame} {frC:Frame} {csC:List Frame} {w:World}
variable {ops:Array Oper} {fr0:af} {cs:List af} {k:List bq} {lo:Nat} {s s2:DS} {X:Nat->Prop} {tsR:T AV} {hR:AH} {j:Nat} {l:List Nat} {o:Oper}
open Classical in
include ok hsub hext in
theorem LA (H:cP tab ops fr0.nt fr0.tmps lo s X) (Q:dX ops fr0 cs k base s X D E K tsR hR (j::l) frC csC w) (hm:fr0.mode= .run) (ho:ops[j]? =some o) (hr:isReady s.aD j o=true)
   (hd:xx tab sub ops fr0.nt j o s= .ok s2) (hready:∀p∈gx o,X p):cP tab ops fr0.nt fr0.tmps lo s2 (fun i=>X i\/i=j)/\p8 P ops fr0 cs k base s2 (fun i=>X i\/i=j) D E K lo l frC csC w:=by
 obtain⟨_,hck,hd1⟩:=ai.1 hd;obtain⟨b,hb,hd2⟩:=ai.1 hd1;obtain⟨_,hbt,hd3⟩:=ai.1 hd2;obtain⟨⟨v,h1⟩,hp,hd4⟩:=ai.1 hd3;obtain⟨_,hle,hd5⟩:=ai.1 hd4;obtain⟨_,hrr,hd6⟩:=ai.1 hd5
 cases hd6;have hok:=c9.1 hck;have hbt:b=true:=c9.1 hbt;subst hbt;have hle:=Ak (c9.1 hle);obtain⟨hnone,hpre⟩:=nh hr;obtain⟨hok1,hok2⟩:=uc hok;have hxj:¬X j:=fun h=>by have:=H.cx j h;rw[hnone]at this;grind
 have hanX:∀p∈dS s.aD o,X p:=by
   intro p hp;rcases eV.1 hp with h|⟨q,hq,ap,h1,h2⟩
   . grind
   . exact H.oI q ap (hready q hq) h1 p h2
 generalize hhid:(s.ay.filter fun x=> !(cF x.1 (dS s.aD o)))=hid at*
 have hidm:∀x,x∈hid↔x∈s.ay/\x.1∉dS s.aD o:=by
   grind [dP]
 have hidj:∀x∈hid,x.1≠j:=by
   intro x hx e;have:=(H.al x ((hidm x).1 hx).1).2.1;rw[e,hnone]at this;grind
 have hl:∀t∈looks ops o,tsR.get t=s.ts.get t:=by
   intro t ht;by_cases hw:∃jj oj,ops[jj]? =some oj/\oj.dst=some t/\(s.aD.get jj).isSome
   . obtain⟨jj,oj,g1,g2,g3⟩:=hw;exact Q.mP jj oj t (hready jj (hok1 t ht jj oj g1 g2 g3)) g1 g2
   . rw[Q.mO t (fun jj oj hx hoj hd=>hw ⟨jj,oj,hoj,hd,H.cx jj hx⟩),H.nL t (fun jj oj hc hoj hd=>hw ⟨jj,oj,hoj,hd,hc⟩)]
 obtain⟨hops,hwant⟩:=wk hl;have a:=ku Q.rel hm rfl ho (by rw[hwant];exact hb);have hfin:=vR (fr0:=fr0) (tsR:=tsR) (l:=l) (k:=k) ho v;let h2:=restore h1 s.h hid
 let pd:=hid.filter fun x=>decide (¬(X x.1\/x.1=j))
 let hR2:=gC h2 pd
 have hg2:∀i,h2.get i=if ∃x∈hid,x.2=i then s.h.get i else h1.get i:=fun i=>ml _ _ _ _
 have hn2:h2.next=h1.next:=sN _ _ _;have hchar:∀i ob,hR2.get i=some ob↔h2.get i=some ob/\ ∀x∈hid,x.2=i->X x.1\/x.1=j:=by
   intro i ob;simp only[hR2,gE];constructor
   . intro h;split at h
     . cases h
     . refine⟨h,fun x hx e=>?_⟩;grind
   grind
 have hR2n:hR2.next=h1.next:=(ig _ _).trans hn2;have hgets:=LS ok hsub hext Q.rel a (h0:=gC s.h hid) (h1:=h1) (h2:=hR2) (v:=v) (by rw[Jx o hops];exact hp) hfin
   (by
     intro i ob h;rw[gE]at h;split at h
     . cases h
     . refine(Q.hr i ob).2 ⟨h,fun x hx e=>?_⟩;grind)
   (by
     intro i ob h;rw[gE]at h;split at h
     . cases h
     . rw[ig];exact H.hd i ob h)
   (by
     intro i ob h;obtain⟨h3,h4⟩:=(hchar i ob).1 h;rw[hg2]at h3;split at h3
     . rename_i hex;right;refine⟨(Q.hr i ob).2 ⟨h3,fun x hx e=>?_⟩,by rw[gE,An hex]⟩;grind
     grind)
   (by
     intro i ob h;obtain⟨h3,_⟩:=(hchar i ob).1 h;rw[hg2]at h3;rw[hR2n];split at h3
     . have:=H.hd i ob h3;omega
     grind)
   (by rw[ig];omega) hR2n (by intro i hi;rw[ig,<-Q.hn];exact Q.rel.dM i hi)
 obtain⟨frC',csC',w',E1,D1,s1,rel1,ag1,dd1,kp1,_,new1⟩:=hgets;rw[ig]at new1;have hdom2:∀i ob,h2.get i=some ob->i<h2.next:=by
   intro i ob h;rw[hn2];rw[hg2]at h;split at h
   . have:=H.hd i ob h;omega
   . rename_i hne;have h3:=(hchar i ob).2 ⟨by rw[hg2,Ai hne];exact h,fun x hx e=>absurd ⟨x,hx,e⟩ hne⟩;have:=(rel1.all E1 (aj.refl _ _)).1.dM i ob h3;rw[<-hR2n];omega
 refine⟨?_,gB fr0.nt tsR o v,hR2,frC',csC',w',D1,E1,s1,⟨rel1,hchar,hR2n.trans hn2.symm,?_,?_,?_⟩,ag1,dd1,kp1,?_⟩
 . refine H.jq ho hr hok hanX rfl rfl (by grind) (fun x hx=>((hidm x).1 hx).1) (fun x hx hn=>(hidm x).2 ⟨hx,hn⟩) ?_ hdom2 ?_
   . intro x hx;rw[hg2,An ⟨x,hx,rfl⟩]
   . intro j' oj tj vj hmr hjan hoj hce hca;have hmf:(j',tj,vj)∈s.reads.filter (fun x=> !(cF x.1 (dS s.aD o))):=by
       rw[BF];grind [dP]
     refine⟨hmf,?_⟩;obtain⟨oj',hr',g1,g2⟩:=CI _ hrr _ _ _ hmf;rw[hoj]at g1
     cases g1;have hsame:=tb ⟨hce,hca⟩ g2;subst hsame;refine⟨_,g2,?_⟩;intro b ob hg;rw[gE]at hg;split at hg
     all_goals grind [ig]
 . intro i oi t hi hoi hd;rw[jr,jr];by_cases hc:o.dst=some t/\t<fr0.nt
   . rw[An hc,An hc]
   . rw[Ai hc,Ai hc];rcases hi with hi|rfl
     . exact Q.mP i oi t hi hoi hd
     . rw[ho]at hoi
       cases hoi;have hge:fr0.nt<=t:=DR (fun hlt=>hc ⟨hd,hlt⟩);rw[H.qB t hge];exact Q.rel.wf.1 t hge
 . intro t ht;rw[jr,Ai (fun h=>ht j o (.inr rfl) ho h.1)];exact Q.mO t (fun i oi hi hoi=>ht i oi (.inl hi) hoi)
 . intro x hx hnx hD;have hxm:=((hidm x).1 hx).1;rcases new1 x.2 hD with hd|hd
   . exact Q.dp x hxm (fun h=>hnx (.inl h)) hd
   . have:=(H.al x hxm).1;omega
 . intro i hi;rcases new1 i hi with h|h
   . grind
   . exact .inr (AW H.nx h)
end
end
section
variable [Inhabited aI]
theorem bo.same {E:Env} {h h':AH} {K:KS} {w:World} (H:bo E h K w) (hg:∀i ob,h'.get i=some ob->h.get i=some ob) (hn:h.next<=h'.next):bo E h' K w:=
 ⟨fun i o hi=>H.obj i o (hg i o hi),fun i o hi=>H.nk i o (hg i o hi),fun i j oi oj hi hj=>H.inj i j oi oj (hg i oi hi) (hg j oj hj),fun i o hi=>AK (H.dM i o (hg i o hi)) hn,H.kb,fun i o hi=>H.im i o (hg i o hi),H.k0⟩
section
variable {tab:bc} {D:Nat->Prop} {E:Env} {K:KS} {base:List Frame} {frC:Frame} {csC:List Frame} {w:World}
variable {ops:Array Oper} {fr0:af} {cs:List af} {k:List bq} {lo:Nat} {s s':DS} {X:Nat->Prop} {tsR:T AV} {hR:AH} {j:Nat} {l:List Nat} {o:Oper}
theorem dX.look (H:cP tab ops fr0.nt fr0.tmps lo s X) (Q:dX ops fr0 cs k base s X D E K tsR hR l frC csC w)
   (ht:∀j o t,X j->ops[j]? =some o->o.dst=some t->s'.ts.get t=s.ts.get t) (hn:s.h.next<=s'.h.next)
   (hg:∀i ob,(s'.h.get i=some ob/\ ∀x∈s'.ay,x.2=i->X x.1)↔(s.h.get i=some ob/\ ∀x∈s.ay,x.2=i->X x.1))
   (ha:∀x∈s'.ay,x∈s.ay\/s.h.next<=x.2):dX ops fr0 cs k base s' X D E K tsR {hR with next:=s'.h.next} l frC csC w:=by
 have hget:∀i,({hR with next:=s'.h.next}:AH).get i=hR.get i:=fun _=>rfl
 refine⟨⟨fun E' he=>?_,fun i hi=>?_,Q.rel.wf⟩,?_,rfl,?_,Q.mO,?_⟩
 . obtain⟨g1,g2,g3⟩:=Q.rel.all E' he;exact⟨g1.same (fun i ob h=>h) (by grind [hn]),g2,g3⟩
 . have:=Q.rel.dM i hi;simp only at this⊢;rw[Q.hn]at this;omega
 . intro i ob;rw[hget,Q.hr i ob,hg i ob]
 . intro j o t hx ho hd;rw[Q.mP j o t hx ho hd,ht j o t hx ho hd]
 . intro x hx hnx hd;rcases ha x hx with h|h
   . exact Q.dp x h hnx hd
   . have:=Q.rel.dM _ hd;rw[Q.hn]at this;omega
theorem EX:∀(l:List Oper) (k:Nat),nK k l=true->∀j o,l[j]? =some o->∀p∈gx o,p<k+j:=by
 intro l;induction l with
 |nil=>grind
 | cons x l ih=>
  intro k h j o hj p hp;simp only[nK,Ad,Aq]at h
  cases j with
  |zero=>
   simp_all
  |succ j=>
   have:=ih (k+1) h.2 j o (by grind) p hp;omega
end
section
variable {tab:bc} {D:Nat->Prop} {E:Env} {K:KS} {base:List Frame} {frC:Frame} {csC:List Frame} {w:World}
variable {ops:Array Oper} {fr0:af} {cs:List af} {k:List bq} {lo:Nat} {X:Nat->Prop} {tsR:T AV} {l:List Nat}
theorem Kp {s s':DS} {i:Nat} {o:Oper} {hR:AH} (hf:rm tab ops fr0.nt i o s= .ok (some s')) (hi:ops[i]? =some o) (hr:isReady s.aD i o=true) (H:cP tab ops fr0.nt fr0.tmps lo s X)
  (Q:dX ops fr0 cs k base s X D E K tsR hR l frC csC w):∃hR',dX ops fr0 cs k base s' X D E K tsR hR' l frC csC w:=by
 obtain⟨hnone,_⟩:=nh hr;have hxi:¬X i:=fun h=>by have:=H.cx i h;rw[hnone]at this;grind
 have hput:∀(v:AV) j oj t,X j->ops[j]? =some oj->oj.dst=some t->(gB fr0.nt s.ts o v).get t=s.ts.get t:=by
  intro v j oj t hx ho hd;rw[jr,Ai];rintro⟨h,_⟩;have:=H.uniq j i oj o t (H.cx j hx) ho hi hd h;grind
 have hsame:∀(v:AV) (s2:DS),s2.ts=gB fr0.nt s.ts o v->s2.h=s.h->s2.ay=s.ay->∃hR',dX ops fr0 cs k base s2 X D E K tsR hR' l frC csC w:=by
  intro v s2 e1 e2 e3;refine⟨_,Q.look H (s':=s2) ?_ (by rw[e2];omega) (fun i ob=>by rw[e2,e3]) (fun x hx=> .inl (by rw[<-e3];exact hx))⟩;grind
 obtain⟨_,hck,hf1⟩:=ai.1 hf;obtain⟨b,hb,hf2⟩:=ai.1 hf1
 cases b with
 |false=>
  cases hf2;exact hsame _ _ rfl rfl rfl
 | true =>
  simp only[BN,Ao,AP]at hf2;split at hf2
  . grind
  . obtain⟨⟨u,h1⟩,hp,hf3⟩:=ai.1 hf2;obtain⟨_,hn,hf4⟩:=ai.1 hf3;obtain⟨ob,hob,hf5⟩:=ai.1 hf4
    cases hf5;refine⟨_,Q.look H (hput u) (by simp) ?_ ?_⟩
    . intro i' ob';rw[AH.aO];by_cases e:i'=s.h.next
      . subst e;rw[An rfl];constructor
        . simp_all
        . rintro⟨h1,_⟩;have:=H.hd _ _ h1;omega
      grind
    grind
  . split at hf2
    . obtain⟨_,hn,hf3⟩:=ai.1 hf2
      cases hf3;exact hsame _ _ rfl rfl rfl
    . split at hf2
      . cases hf2;exact hsame _ _ rfl rfl rfl
      grind
theorem tB:∀(l':List Oper) (n:Nat) (s s':DS) (hR:AH),(∀j o,l'[j]? =some o->ops[n+j]? =some o)->jv tab ops fr0.nt n l' s= .ok s'->cP tab ops fr0.nt fr0.tmps lo s X->
  dX ops fr0 cs k base s X D E K tsR hR l frC csC w->∃hR',dX ops fr0 cs k base s' X D E K tsR hR' l frC csC w:=by
 intro l';induction l' with
 |nil=>grind [jv]
 |cons o l' ih=>
  intro n s s' hR hl h H Q;have hl':∀j o',l'[j]? =some o'->ops[n+1+j]? =some o':=by
    intro j o' hj;have:=hl (j+1) o' (by grind);rw[show n+1+j=n+(j+1)from by omega];omega
  simp only[jv]at h;by_cases hr:isReady s.aD n o=true
  . simp only[hr,Bv]at h;obtain⟨x,hx,h1⟩:=ai.1 h
    cases x with
    |none=>grind
    |some s1=>
     have hin:ops[n]? =some o:=by simpa using hl 0 o rfl
     grind [Kp,y6]
  grind
end
end
section
variable [Inhabited aI]
def dL (listed:Array Bool) (j:Nat):Prop:=listed.getD j false=true
def lZ (n:Nat) (listed:Array Bool):Nat:=((List.range n).filter fun i=> !listed.getD i false).length
theorem JA {p q:Nat->Bool} {i:Nat}:∀(l:List Nat),(∀j,q j=true->p j=true)->i∈l->p i=true->q i=false->(l.filter q).length+1<=(l.filter p).length:=by
 intro l;induction l with
 |nil=>grind
 |cons x l ih=>
  intro hqp hi hp hq;rcases Al.1 hi with rfl|hi
  . rw[B0,B0,An hp,Ai (by rw[hq];simp),AX];have:(l.filter q).length<=(l.filter p).length:=by
     rw[<-El,<-El];simp_all[List.countP_mono_left]
    omega
  grind
theorem xl {listed:Array Bool} {i:Nat} (hi:i<listed.size):dL (listed.setIfInBounds i true)=fun j=>dL listed j\/j=i:=by
 funext j
 unfold dL;rw[BL,BL,Bt];grind
theorem FQ {n:Nat} {listed:Array Bool} {i:Nat} (hi:i<n) (hs:i<listed.size) (hx:¬dL listed i):lZ n (listed.setIfInBounds i true)+1<=lZ n listed:=by
 refine JA _ ?_ (List.mem_range.2 hi) (by grind [dL]) ?_
 . intro j hj;have h1:¬dL (listed.setIfInBounds i true) j:=by grind [dL]
   rw[xl hs]at h1;have:¬dL listed j:=fun h=>h1 (.inl h)
   grind [dL]
 simp_all
theorem CV {n:Nat} {listed:Array Bool} (h:lZ n listed=0):∀j,j<n->dL listed j:=by
 grind [lZ,List.filter_eq_nil_iff,dL]
end
section
variable [Inhabited aI]
section
variable {P:Program} {tab:bc} (ok:bD P tab) {sub:FuncId->List AV->AH->R (List (AV×AH))} (hsub:jy P tab sub) (hext:jx P tab)
variable {K:KS} {base:List Frame}
variable {ops:Array Oper} {fr0:af} {cs:List af} {k:List bq} {lo:Nat}
def Fin (P:Program) (fr0:af) (cs:List af) (k:List bq) (base:List Frame) (K:KS) (lo:Nat) (sF:DS) (D:Nat->Prop) (E:Env) (frC:Frame) (csC:List Frame) (w:World):Prop:=
 ∃frC' csC' w' D' E',Steps P (lone frC csC w) (lone frC' csC' w')/\Rel D' E' K {fr:={fr0 with tmps:=sF.ts,todo:=k},cs,h:=sF.h} base frC' csC' w'/\aj D E E'/\(∀i,D i->D' i)/\Kept K w w'/\(∀i,D' i->D i\/lo<=i)/\lo<=sF.h.next
def l4 (tab:bc) (sub:FuncId->List AV->AH->R (List (AV×AH))) (ops:Array Oper) (nt:Nat) (s sF:DS):Prop:=
 (ir s.aD 0 ops.toList=[]/\sF=s)\/ ∃c o n s2,ir s.aD 0 ops.toList=[(c,o)]/\xx tab sub ops nt c o s= .ok s2/\rp tab sub ops nt n s2= .ok sF
theorem Cv {nt n:Nat} {s sF:DS} (h:rp tab sub ops nt n s= .ok sF):∃s1,jv tab ops nt 0 ops.toList s= .ok s1/\l4 tab sub ops nt s1 sF:=by
 cases n with
 |zero=>grind [rp]
 |succ n=>
  obtain⟨s1,h1,h2⟩:=ai.1 h;refine⟨s1,h1,?_⟩;split at h2
  . rename_i hc;obtain⟨_,_,h3⟩:=ai.1 h2
    cases h3;exact .inl ⟨hc,rfl⟩
  . rename_i c o hc;obtain⟨s2,h3,h4⟩:=ai.1 h2;exact .inr ⟨c,o,n,s2,hc,h3,h4⟩
  grind
include ok hsub hext in
theorem H4 (hm:fr0.mode= .run) (hlt:nK 0 ops.toList=true):∀(fuel t:Nat) (listed:Array Bool) (s sF:DS) (D:Nat->Prop) (E:Env) (tsR:T AV) (hR:AH) (frC:Frame) (csC:List Frame) (w:World),
  listed.size=ops.size->lZ ops.size listed<=fuel->l4 tab sub ops fr0.nt s sF->cP tab ops fr0.nt fr0.tmps lo s (dL listed)->
  dX ops fr0 cs k base s (dL listed) D E K tsR hR (Region.linearise.go .any ops fuel t listed []) frC csC w->Fin P fr0 cs k base K lo sF D E frC csC w:=by
 have hend:∀(listed:Array Bool) (s sF:DS) (D:Nat->Prop) (E:Env) (tsR:T AV) (hR:AH) (frC:Frame) (csC:List Frame) (w:World),(∀j,j<ops.size->dL listed j)->
    l4 tab sub ops fr0.nt s sF->cP tab ops fr0.nt fr0.tmps lo s (dL listed)->dX ops fr0 cs k base s (dL listed) D E K tsR hR [] frC csC w->Fin P fr0 cs k base K lo sF D E frC csC w:=by
  intro listed s sF D E tsR hR frC csC w hall htodo H Q;rcases htodo with⟨_,rfl⟩|⟨c,o,n,s2,hc,_,_⟩
  . have hts:∀t,tsR.get t=sF.ts.get t:=by
      intro t;by_cases hw:∃(j:Nat) (oj:Oper),ops[j]? =some oj/\oj.dst=some t
      . obtain⟨j,oj,h1,h2⟩:=hw;exact Q.mP j oj t (hall j (Ac.1 h1).1) h1 h2
      . rw[Q.mO t (fun j oj _ h1 h2=>hw ⟨j,oj,h1,h2⟩),H.nL t (fun j oj _ h1 h2=>hw ⟨j,oj,h1,h2⟩)]
    have hst:∀E',Go.step P (lone (aZ E' {fr0 with tmps:=tsR,todo:= .inRegion ops []::k}) csC w)= .next (lone (aZ E' {fr0 with tmps:=tsR,todo:=k}) csC w):=
      fun E'=>step_lone_go (by simp[stepG,stepG.exec,aZ,hm,ey,dc])
    have hconc:∀E',aZ E' {fr0 with tmps:=sF.ts,todo:=k}=aZ E' {fr0 with tmps:=tsR,todo:=k}:=by
      simp_all[fD,sd,aZ]
    have hfr:=(Q.rel.all E (aj.refl _ _)).2.1;refine⟨aZ E {fr0 with tmps:=tsR,todo:=k},csC,w,D,E, .one (by rw[<-hfr];grind),⟨fun E' he=>?_,fun i hi=>?_,?_,Q.rel.wf.2⟩,aj.refl _ _,fun _ h=>h,Kept.refl K w,fun i hi=> .inl hi,H.nx⟩
    . obtain⟨g1,g2,g3⟩:=Q.rel.all E' he;refine⟨g1.same (fun i ob h=>(Q.hr i ob).2 ⟨h,fun x hx _=>?_⟩) (by simp only;rw[Q.hn];omega),?_,g3⟩
      . obtain⟨o,ho⟩:=H.op _ (H.al x hx).2.1;grind
      grind [pS]
    . have:=Q.rel.dM i hi;rw[Q.hn]at this;omega
    . intro t ht;have:=Q.rel.wf.1 t ht;grind
  . have hcm:(c,o)∈ir s.aD 0 ops.toList:=by rw[hc];grind
    obtain⟨j',h1,h2,h3⟩:=yO _ _ _ _ _ hcm;have hlt':c<ops.size:=by
      have:=(Ah.1 h2).1;grind
    have:=H.cx c (hall c hlt');rw[(nh h3).1]at this;grind
 intro fuel;induction fuel with
 |zero=>
  grind [CV,Region.linearise.go]
 | succ fuel ih=>
  intro t listed s sF D E tsR hR frC csC w hsz hu htodo H Q;change dX ops fr0 cs k base s (dL listed) D E K tsR hR (match(Region.ready .any ops listed)[t % (Region.ready .any ops listed).length]? with
    |some i=>Region.linearise.go .any ops fuel (t / (Region.ready .any ops listed).length) (listed.setIfInBounds i true) [i]
    |none=>[].reverse) frC csC w at Q
  have hget:∀j,j<ops.size->(listed.getD j true=false↔¬dL listed j):=by
    grind [dL]
  cases hi:(Region.ready .any ops listed)[t % (Region.ready .any ops listed).length]? with
  | none=>
    rw[hi]at Q;have hnil:Region.ready .any ops listed=[]:=by
      cases hr:Region.ready .any ops listed with
      |nil=>rfl
      | cons x xs=>
        rw[hr]at hi;have hlt:t % (x::xs).length<(x::xs).length:=Eo _ (by simp);rw[DK]at hi;omega
    have hall:∀j,j<ops.size->dL listed j:=by
      intro j;induction j using Nat.strongRecOn with
      | _ j ihj=>
        intro hj;by_cases hx:dL listed j
        . exact hx
        . have hm':j∈Region.ready .any ops listed:=by
           rw[mem_ready];refine⟨(hget j hj).2 hx,ops[j],AN hj,?_⟩;intro e he hb;have hp:e.on∈gx ops[j]:=Ar.2 ⟨e,BF.2 ⟨by grind,hb⟩,rfl⟩;have hlt':=EX ops.toList 0 hlt j ops[j] (by grind) e.on hp;grind
          rw[hnil]at hm';grind
    grind
  | some i =>
    rw[hi]at Q;simp only at Q;rw[linearise_go_acc,Dm,Db]at Q;obtain⟨hl1,o,ho,hdeps⟩:=mem_ready.1 (BV hi);have hin:i<ops.size:=(Ac.1 ho).1;have hx:=(hget i hin).1 hl1;have hready:∀p∈gx o,dL listed p:=by
      intro p hp;obtain⟨e,he,rfl⟩:=Ar.1 hp;grind
    have hsz':(listed.setIfInBounds i true).size=ops.size:=by grind
    have hu':lZ ops.size (listed.setIfInBounds i true)<=fuel:=by
      have:=FQ hin (by omega) hx;omega
    have hX':dL (listed.setIfInBounds i true)=fun j=>dL listed j\/j=i:=xl (by omega)
    have hfin:∀(s':DS),l4 tab sub ops fr0.nt s' sF->cP tab ops fr0.nt fr0.tmps lo s' (fun j=>dL listed j\/j=i)->
        p8 P ops fr0 cs k base s' (fun j=>dL listed j\/j=i) D E K lo (Region.linearise.go .any ops fuel (t / (Region.ready .any ops listed).length) (listed.setIfInBounds i true) []) frC csC w->Fin P fr0 cs k base K lo sF D E frC csC w:=by
      intro s' htd H' hc;obtain⟨tsR',hR',frC',csC',w',D',E',c1,c2,c3,c4,c5,c6⟩:=hc;obtain⟨frF,csF,wF,DF,EF,f1,f2,f3,f4,f5,f6,f7⟩:=ih _ (listed.setIfInBounds i true) s' sF D' E' tsR' hR' frC' csC' w' hsz' hu' htd (by rw[hX'];exact H') (by rw[hX'];exact c2);exact⟨frF,csF,wF,DF,EF,c1.trans f1,f2,c3.trans f3 c4,fun x hx=>f4 x (c4 x hx),c5.trans f5,fun x hx=>(f6 x hx).elim (c6 x) .inr,f7⟩
    by_cases hC:(s.aD.get i).isSome=true
    . exact hfin s htodo (H.qE hC ho hready) (Cl ok H Q hm ho hC hx hready)
    . have hr:isReady s.aD i o=true:=by
        unfold isReady;simp only[Ad,Aq];exact⟨by simp_all,fun p hp=>H.cx p (hready p hp)⟩
      have hcm:(i,o)∈ir s.aD 0 ops.toList:=by
        have:=E5 ops.toList 0 s.aD i o (by grind) (by grind);grind
      rcases htodo with⟨hc,_⟩|⟨c,o',n,s2,hc,hd,hloop⟩
      . rw[hc]at hcm;grind
      . rw [hc]at hcm;rcases Al.1 hcm with e|hcm
        . cases e;obtain⟨H2,tsR',hR',frC',csC',w',D',E',c1,c2,c3,c4,c5,c6⟩:=LA ok hsub hext H Q hm ho hr hd hready;obtain⟨s3,hpass,htd3⟩:=Cv hloop;have hpl:∀j o,ops.toList[j]? =some o->ops[0+j]? =some o:=by
           grind
          obtain⟨hR3,Q3⟩:=tB ops.toList 0 s2 s3 hR' hpl hpass H2 c2;exact hfin s3 htd3 (sY ops.toList 0 s2 s3 hpl hpass H2) ⟨tsR',hR3,frC',csC',w',D',E',c1,Q3,c3,c4,c5,c6⟩
        grind
end
end
section
variable [Inhabited aI]
section
variable {P:Program} {tab:bc} (ok:bD P tab) {sub:FuncId->List AV->AH->R (List (AV×AH))} (hsub:jy P tab sub) (hext:jx P tab)
theorem pJ (n j:Nat):¬dL (Array.replicate n false) j:=by
 unfold dL;rw[BL,Ex];split<;>simp
include ok hsub hext in
theorem wi (hmix:P.follows .mixedOrders=true):xG P tab sub:=by
 intro fr cs h id ops k ts h' hm ht hd D E K base frC csC w hR;obtain⟨_,hlt,hd1⟩:=ai.1 hd;obtain⟨sF,hloop,hd2⟩:=ai.1 hd1
 cases hd2;have hlt:=c9.1 hlt;let s0:DS:={ts:=fr.tmps,h,aD:= .e,reads:=[],ay:=[]}
 let ord:=w.tape w.drawn (.order frC.fn id)
 let l:=Region.linearise.go .any ops ops.size ord (Array.replicate ops.size false) []
 have hstep:∀E',aj D E E'->Go.step P (lone frC csC w)= .next (lone (aZ E' {fr with tmps:=fr.tmps,todo:= .inRegion ops l::k}) csC w.drew):=by
  intro E' he;have e1:=(hR.all E' he).2.1;refine step_lone_go ?_;have hmC:frC.mode= .run:=by rw[<-e1];grind [aZ,ey]
  have htC:frC.todo= .code (.region id ops true)::k.map (dc E'):=by rw[<-e1];grind [aZ,dc]
  have hrun:(choose (.order frC.fn id)).run P w= .ok ord w.drew:=by
   rfl
  have hsch:Region.schedule (P.follows .mixedOrders) ops ord=l:=by
   simp only[Region.schedule,hmix,DG,Bq];rfl
  have hgoal:aZ E' {fr with tmps:=fr.tmps,todo:= .inRegion ops l::k}={frC with todo:= .inRegion ops l::k.map (dc E')}:=by
   rw[<-e1];rfl
  rw[hgoal];grind [stepG,stepG.exec,GStep.bare_go]
 have hdom:=(hR.all E (aj.refl _ _)).1.dM;have H0:cP tab ops fr.nt fr.tmps h.next s0 (dL (Array.replicate ops.size false)):=by
  have hnone:∀j,s0.aD.get j=none:=fun _=>rfl
  refine⟨fun j hj=>absurd hj (pJ _ _),fun j a hj=>absurd hj (pJ _ _),?_,?_,?_,fun _ _=>rfl,?_,fun x hx=>(by cases hx),Aj _,hR.wf.1,fun x hx=>(by cases hx),hdom⟩
  all_goals grind
 have Q0:dX ops fr cs k base s0 (dL (Array.replicate ops.size false)) D E K fr.tmps h l (aZ E {fr with tmps:=fr.tmps,todo:= .inRegion ops l::k}) csC w.drew:=by
  refine⟨⟨fun E' he=>?_,hR.dM,hR.wf⟩,fun i ob=>⟨fun h=>⟨h,fun x hx=>(by cases hx)⟩,fun h=>h.1⟩,rfl,fun j o t hx=>absurd hx (pJ _ _),fun _ _=>rfl,fun x hx=>by cases hx⟩;obtain⟨g1,g2,g3⟩:=hR.all E' he;refine⟨g1.drew,?_,g3⟩;have h1:=hstep E' he;rw[hstep E (aj.refl _ _)]at h1;grind [pS]
 obtain⟨s1,hpass,htodo⟩:=Cv hloop;have hpl:∀j o,ops.toList[j]? =some o->ops[0+j]? =some o:=by
  grind
 obtain⟨hR1,Q1⟩:=tB ops.toList 0 s0 s1 h hpl hpass H0 Q0;have H1:=sY ops.toList 0 s0 s1 hpl hpass H0;obtain⟨frC',csC',w',D',E',f1,f2,f3,f4,f5,f6,f7⟩:=H4 ok hsub hext hm hlt ops.size ord (Array.replicate ops.size false) s1 sF D E fr.tmps hR1 _ csC w.drew (by simp)
  (by grind [lZ]) htodo H1 Q1
 exact⟨frC',csC',w',E',D',Steps.head (hstep E (aj.refl _ _)) f1,f2,f3,f4,(Kept.drew K w).trans f5,f7,f6⟩
end
end
section
variable [Inhabited aI]
def kQ (tag:Nat) (fn:Func):Array Value->Sem Value:=
 match tag with
 |1=>Extern.BytealgCompare.compare
 |2=>Extern.AbiNoEscape.same
 |3=>Extern.BytealgMakeNoZero.makeNoZero fn.params fn.resultTypes
 |5=>Extern.BytealgIndexByte.indexByte
 |6=>Extern.BytealgCount.count
 |_=>Extern.SlicesOverlaps.overlaps fn.params fn.resultTypes
def fF (P:Program) (tab:bc):Prop:=∀f tag fn,tab.ext.get f=some tag->tab.fns.get f=some fn->Extern.findNext fn=none/\Extern.find fn=some (kQ tag fn)
theorem N4 (ps rs:Array TypeId) (n:Int):Extern.BytealgMakeNoZero.makeNoZero ps rs #[.int .i64 n]=(do
 let some t:=rs[0]? |stuck "bytealg.MakeNoZero: no result type"
 let .slice elem<-underlying t|stuck "bytealg.MakeNoZero: slice type expected"
 if n<0||n>2 ^ 48 then runtimePanic (.error "makeslice: len out of range")
 let cap<-choose (.appendCap n.toNat 0 elem)
 askRoom cap
 let bytes<-choose (.extern "internal/bytealg.MakeNoZero.bytes" 0)
 let a<-Go.newRow elem (Extern.BytealgMakeNoZero.digits cap bytes #[])
 pure (.slice (some a) n.toNat cap)):=rfl
theorem GD (ps rs:Array TypeId) (a b:Option Addr) (la lb ca cb:Nat):Extern.SlicesOverlaps.overlaps ps rs #[.slice a la ca, .slice b lb cb]=(do
 let some t:=ps[0]? |stuck "slices.overlaps: no parameter types"
 let .slice elem<-underlying t|stuck "slices.overlaps: slice type expected"
 let size<-sizeOf elem
 match a,b with
 | some a,some b=>
  if la=0\/lb=0\/size=0 then pure (.bool false)
  else if a.block !=b.block&&(<-Go.frozen a)&&(<-Go.frozen b)then unsupported .addressObserved
  else do
   if a.block !=b.block then do
    noView a;noView b
    if<-mayBeOne a b then return .bool ((<-choose (.extern "sameAddr.stringBytes" 2))==1)
   pure (.bool (a.block==b.block&&a.off<b.off+lb*size&&b.off<a.off+la*size))
 |_,_=>pure (.bool false)):=rfl
theorem OE (b c:Value):Extern.BytealgIndexByte.indexByte #[b,c]=(do
 let b<-Extern.Bytes.bytesOf b
 let c<-Extern.Bytes.asByte c
 match(List.range b.size).find? fun i=>b[i]! ==c with
 |some i=>pure (Go.goInt i)
 |none=>pure (Go.goInt (-1))):=rfl
theorem Ju:∀(n t:Nat) (acc:Array Value),(Extern.BytealgMakeNoZero.digits n t acc).size=acc.size+n:=by
 intro n;induction n with
 |zero=>intro t acc;rfl
 |succ n ih=>grind [Extern.BytealgMakeNoZero.digits]
section
variable {P:Program} {tab:bc} (ok:bD P tab) (het:fF P tab)
include ok het
theorem OC : jx P tab:=by
 intro f fn args h v h' hfn hb hx w;have hP:=ok.fns f fn hfn;unfold tJ at hx;split at hx
 . rename_i tag htag;obtain⟨hn,he⟩:=het f tag fn htag hfn;have hrun:∀a (w:World),(callFunc f a).run P w=((kQ tag fn a).run P w).andThen fun v w'=> .ok (.value v) w':=fun a w=>run_callFunc_extern hP (ok.sI f fn hfn) (by rw[hb];rfl) hn he a w
   unfold extern at hx;split at hx
   . cases hx;refine⟨(0,0),fun E K H _=>⟨by omega,w,?_,H,Kept.refl K w⟩⟩;rw[hrun];rfl
   . cases hx;refine⟨(0,0),fun E K H _=>⟨by omega,w,?_,H,Kept.refl K w⟩⟩;rw[hrun];rfl
   ·
     rename_i n;obtain⟨t,ht,hx1⟩:=ai.1 hx;obtain⟨d,hd,hx2⟩:=ai.1 hx1;have hPt:=ok.und t d (cg.1 hd);have ht:=cg.1 ht;split at hx2
     . rename_i e;obtain⟨z,hz,hx2'⟩:=ai.1 hx2;obtain⟨_,hle,hx3⟩:=ai.1 hx2';obtain⟨⟨h1,b⟩,hrow,hx4⟩:=ai.1 hx3
       cases hx4;have hle:=c9.1 hle;simp only[Ad]at hle;have hz1:=Ab hle.2;have hle:=Ak hle.1;obtain⟨sz,hsz,rfl,rfl⟩:=gF hrow;rw[hz]at hsz
       cases hsz;refine⟨(w.heap.size,grownCap w n 0 e),fun E K H hE=>?_⟩;obtain⟨hE1,hE2⟩:=hE (by simp);refine⟨by simp,w.drew.drew.alloc (.cells (Extern.BytealgMakeNoZero.digits (grownCap w n 0 e) ((Question.extern "internal/bytealg.MakeNoZero.bytes" 0).cut (w.drew.tape w.drew.drawn (.extern "internal/bytealg.MakeNoZero.bytes" 0))) #[]) e),?_,?_,?_⟩
       . rw[hrun];have h1:¬((n:Int)<0):=by omega
         have h2:¬((n:Int)>2 ^ 48):=by
           have:(2:Int) ^ 48=281474976710656:=by decide
           rw[this];omega
         have hq:(Question.appendCap n 0 e).cut (w.tape w.drawn (.appendCap n 0 e))=grownCap w n 0 e:=rfl;have hor:((decide ((n:Int)<0))||(decide ((n:Int)>2 ^ 48)))=false:=by rw[AU h1,AU h2];rfl
         show(((Extern.BytealgMakeNoZero.makeNoZero fn.params fn.resultTypes #[.int .i64 (n:Int)]).run P w).andThen fun v w'=> .ok (Next.value v) w')=_
         rw[N4];simp only[ht,Sem.run_bind,underlying,run_program,Result.andThen_ok,hPt,Sem.run_pure,hor,Ao,AP,run_choose,Question.forced,DO,hq,World.drew_eq,run_askRoom,n9];simp_all[ab,fk.val]
       . exact H.drew.drew.new (by simp_all) ⟨_,_,rfl,⟨_,rfl⟩,by grind [Ju],rfl⟩
       . exact((Kept.drew K w).trans (Kept.drew K w.drew)).trans (Kept.alloc (by simpa using H.kb) _)
     grind
   ·
     obtain⟨t,ht,hx1⟩:=ai.1 hx;obtain⟨d,hd,hx2⟩:=ai.1 hx1;have hPt:=ok.und t d (cg.1 hd);have ht:=cg.1 ht;split at hx2
     . obtain ⟨sz,hsz,hx3⟩:=ai.1 hx2;obtain⟨_,hck,hx4⟩:=ai.1 hx3;clear hx hx1 hx2 hx3;have hs0:sz≠0:=by
         intro e;simp_all[R.check]
       have hnone:∀(E:Env) (a b:Option Addr) (la lb ca cb:Nat),(a=none\/b=none)->((kQ 4 fn #[.slice a la ca, .slice b lb cb]).run P w)= .ok (.bool false) w:=by
         intro E a b la lb ca cb hab;show(Extern.SlicesOverlaps.overlaps fn.params fn.resultTypes #[.slice a la ca, .slice b lb cb]).run P w=_
         rw[GD];simp only[ht,Sem.run_bind,underlying,run_program,Result.andThen_ok,hPt,Sem.run_pure,iT ok hsz];rcases hab with rfl|rfl
         all_goals simp_all
       split at hx4
       . cases hx4;refine⟨(0,0),fun E K H _=>⟨by omega,w,?_,H,Kept.refl K w⟩⟩;rw[hrun];simp only[bF,cW,ab];rw[hnone E _ _ _ _ _ _ (.inl rfl)];rfl
       . cases hx4;refine⟨(0,0),fun E K H _=>⟨by omega,w,?_,H,Kept.refl K w⟩⟩;rw[hrun];simp only[bF,cW,ab];rw[hnone E _ _ _ _ _ _ (.inl rfl)];rfl
       . cases hx4;refine⟨(0,0),fun E K H _=>⟨by omega,w,?_,H,Kept.refl K w⟩⟩;rw[hrun];simp only[bF,cW,ab];rw[hnone E _ _ _ _ _ _ (.inr rfl)];rfl
       . rename_i a i n ca b j m cb;split at hx4
         . rename_i ha hb';have hsame:h'=h:=by
            cases hc:(Nat.beq n 0||Nat.beq m 0)<;>rw[hc]at hx4<;>cases hx4<;>rfl
           subst hsame;refine⟨(0,0),fun E K H _=>⟨by omega,w,?_,H,Kept.refl K w⟩⟩;rw[hrun];simp only[bF,cW,ab];have hgo:((kQ 4 fn #[.slice (some ⟨E.aN a,i,none⟩) n (ca.val (E.cap a)), .slice (some ⟨E.aN b,j,none⟩) m (cb.val (E.cap b))]).run P w)= .ok (ab E v) w:=by
            show(Extern.SlicesOverlaps.overlaps fn.params fn.resultTypes #[.slice (some ⟨E.aN a,i,none⟩) n (ca.val (E.cap a)), .slice (some ⟨E.aN b,j,none⟩) m (cb.val (E.cap b))]).run P w=_
            rw[GD];simp only[ht,Sem.run_bind,underlying,run_program,Result.andThen_ok,hPt,Sem.run_pure,iT ok hsz];by_cases hz:n=0\/m=0
            . rw[An (by rcases hz with h|h<;>simp[h])];have:(Nat.beq n 0||Nat.beq m 0)=true:=by
                rcases hz with rfl|rfl<;>simp
              rw[this]at hx4
              cases hx4;rfl
            . rw [Ai (by omega)];have h1:Nat.beq n 0=false:=by
                grind [Nat.eq_of_beq_eq_true]
              have h2:Nat.beq m 0=false:=by
                grind [Nat.eq_of_beq_eq_true]
              rw[h1,h2]at hx4
              cases hx4;have hfa:=tk H ha i;have hfb:=tk H hb' j;have hfrz:(Go.frozen ⟨E.aN a,i,none⟩).run P w= .ok false w:=by simp_all
              by_cases hab:a=b
              . subst hab;simp[ab];congr 1<;>(rw[AE];simp)
              . have hne:E.aN a≠E.aN b:=fun e=>hab (H.inj a b _ _ ha hb' (by simp[AO.ro]) e)
                have hb0:Nat.beq a b=false:=by
                 grind [Nat.eq_of_beq_eq_true]
                simp[ab,hne,hb0,hfrz,sV H ha,sV H hb',yR H ha hb']
           rw[hgo];rfl
         grind
       grind
     grind
   ·
     rename_i a c
     cases hx;refine⟨(0,0),fun E K H _=>⟨by omega,w,?_,H,Kept.refl K w⟩⟩;rw[hrun];have hgo:(kQ 5 fn #[.string ⟨a.toArray⟩, .int .u8 c]).run P w= .ok (.int .i64 (xH ⟨a.toArray⟩ c.toNat.toUInt8)) w:=by
       show(Extern.BytealgIndexByte.indexByte #[.string ⟨a.toArray⟩, .int .u8 c]).run P w=_
       rw[OE];unfold xH;simp only[Extern.Bytes.bytesOf,Extern.Bytes.asByte,Sem.run_bind,Sem.run_pure,Result.andThen_ok];generalize List.find? (fun i=>(ByteArray.mk a.toArray)[i]! ==c.toNat.toUInt8) (List.range (ByteArray.mk a.toArray).size)=r
       cases r<;>rfl
     simp_all[ab]
   ·
     rename_i a c
     cases hx;refine⟨(0,0),fun E K H _=>⟨by omega,w,?_,H,Kept.refl K w⟩⟩;rw[hrun];have hgo:(kQ 6 fn #[.string ⟨a.toArray⟩, .int .u8 c]).run P w= .ok (.int .i64 (a.count c.toNat.toUInt8:Nat)) w:=by
       show(Extern.BytealgCount.count #[.string ⟨a.toArray⟩, .int .u8 c]).run P w=_
       rw[Go.Lib.run_countString];simp[Go.Lib.countByte]
     simp_all[ab]
   grind
 grind
end
end
def T.cZ {α:Type}:(Nat->Option α)->T α->T α
 |_, .e=> .e
 |f, .n v l r=> .n (match v with|none=>none|some _=>f 0) (T.cZ (fun k=>f (2*k+1)) l) (T.cZ (fun k=>f (2*k+2)) r)
def T.all {α:Type} (p:α->Bool):T α->Bool
 | .e=>true
 | .n v l r=>(match v with|none=>true|some a=>p a)&&T.all p l&&T.all p r
theorem yn {α:Type}:∀(t:T α) (f:Nat->Option α),T.cZ f t=t->∀k v,t.get k=some v->f k=some v:=by
 intro t;induction t with
 |e=>grind [sh]
 |n x l r ihl ihr=>
  intro f h k v hk;simp only[T.cZ,T.n.injEq]at h;grind [vp]
theorem QD {α:Type} {p:α->Bool}:∀(t:T α),T.all p t=true->∀k v,t.get k=some v->p v=true:=by
 intro t;induction t with
 |e=>grind [sh]
 |n x l r ihl ihr=>
  intro h k v hk;simp only[T.all,Ad]at h;grind [vp]
theorem bD.of {P:Program} {tab:bc} (h1:tab.und.cZ P.underlying=tab.und) (h2:tab.siz.cZ (fun t=>(P.info? t).map (·.size))=tab.siz) (h3:tab.byt.cZ (fun t=>(P.info? t).map (·.bytes))=tab.byt)
  (h4:tab.jB.cZ (fun t=>((P.info? t).bind (·.zero)).map ofConst)=tab.jB) (h5:tab.agg.cZ (fun t=>(P.underlying t).map x5)=tab.agg) (h6:tab.held.cZ (fun t=>some (P.stoodInHeld t))=tab.held)
  (h7:tab.jG.cZ (fun t=>some (P.eqGuardType P.depth t))=tab.jG) (h8:tab.fns.cZ (fun f=>P.funcs[f]?)=tab.fns) (h9:tab.fns.all (fun fn=> !(fn.name== "runtime.NumGoroutine"))=true):bD P tab:=by
 refine⟨yn _ _ h1,?_,?_,?_,?_,?_,?_,yn _ _ h8,?_⟩
 all_goals grind [yn,Option.map_eq_some_iff,Option.bind_eq_some_iff,yX,QD]
theorem fF.of {P:Program} {tab:bc} (l:List (Nat×Nat)) (hl:∀f tag,tab.ext.get f=some tag->(f,tag)∈l) (hf:∀x∈l,∀fn,tab.fns.get x.1=some fn->Extern.findNext fn=none/\Extern.find fn=some (kQ x.2 fn)):fF P tab:=
 fun f tag fn h1 h2=>hf (f,tag) (hl f tag h1) fn h2
def xm:R (List (AV×AH))->Bool
 | .ok l=>l.all fun x=>match x.1 with| .bool b=>b|_=>false
 | .no _=>false
theorem JK {r:R (List (AV×AH))} (h:xm r=true):∃outs,r= .ok outs/\ ∀v h',(v,h')∈outs->v= .bool true:=by
 cases r with
 |no w=>cases h
 |ok l=>
  refine⟨l,rfl,fun v h' hm=>?_⟩;have:=Aq.1 h (v,h') hm;grind
def eF:AH:={t:= .e,next:=0}
theorem Lx (E:Env) (K:KS) (w:World) (hK:∀b,K b->b<w.heap.size) (hk0:∀b,b<K.b->K b):bo E eF K w:=by
 have h0:∀i,eF.get i=none:=fun i=>rfl
 refine⟨fun i o h=>?_,fun i o h=>?_,fun i j oi oj h=>?_,fun i o h=>?_,hK,fun i o h=>?_,hk0⟩<;>(rw[h0]at h;cases h)
def qA:List (Nat×Nat)->T Nat
 |[]=> .e
 |(f,t)::l=>(qA l).set f (some t)
theorem KC:∀(l:List (Nat×Nat)) (f tag:Nat),(qA l).get f=some tag->(f,tag)∈l:=by
 intro l;induction l with
 |nil=>grind [qA,sh]
 |cons x l ih=>
  grind [qA,T.aT]
theorem P1 {P:Program} {tab:bc} (l:List (Nat×Nat)) (hl:tab.ext=qA l) (hf:∀x∈l,∃fn,tab.fns.get x.1=some fn/\Extern.findNext fn=none/\Extern.find fn=some (kQ x.2 fn)):fF P tab:=
 fF.of l (fun f tag h=>KC l f tag (by rw[<-hl];exact h)) (fun x hx fn h=>by
  grind)
end Go.Am
namespace Go.Proofs
open Go.Am
open Tryz
def nd {α:Type} (x:α) (l r:T α):T α:= .n (some x) l r
def lf {α:Type} (x:α):T α:= .n (some x) .e .e
noncomputable def Rb:T TypeDesc:=(nd t0.desc (nd t1.desc (nd t3.desc (nd t7.desc (.n none (.n none (nd t63.desc (nd t127.desc (lf t254.desc) .e) .e) (.n none (.n none (lf t287.desc) .e) .e)) (nd t46.desc .e (nd t110.desc .e (.n none (lf t367.desc) .e)))) (nd t23.desc (.n none (nd t70.desc .e (nd t199.desc (lf t327.desc) .e)) (nd t103.desc (lf t166.desc) .e)) (.n none (lf t87.desc) (.n none (lf t183.desc) .e)))) (.n none (.n none (nd t35.desc (.n none (lf t130.desc) (.n none (lf t285.desc) .e)) (.n none (lf t163.desc) .e)) (nd t50.desc (nd t83.desc .e (.n none (lf t339.desc) .e)) (.n none (lf t179.desc) .e))) (.n none (.n none (nd t74.desc (lf t138.desc) .e) (nd t107.desc .e (lf t234.desc))) (.n none (nd t90.desc (nd t155.desc (lf t283.desc) (lf t410.desc)) (lf t219.desc)) (nd t123.desc (nd t187.desc (lf t315.desc) .e) .e))))) (nd t5.desc (nd t9.desc (.n none (.n none (.n none (lf t129.desc) .e) .e) (nd t48.desc (nd t81.desc .e (lf t209.desc)) .e)) (nd t25.desc (.n none (nd t72.desc .e (.n none (lf t329.desc) .e)) .e) (.n none (nd t89.desc (.n none .e (lf t409.desc)) (lf t217.desc)) .e))) (.n none (.n none (nd t37.desc (lf t68.desc) (nd t101.desc (nd t165.desc (lf t293.desc) .e) .e)) (.n none (.n none .e (lf t213.desc)) (.n none (nd t181.desc (lf t309.desc) .e) .e))) (nd t3.desc (.n none (.n none .e (lf t205.desc)) (.n none (.n none (lf t301.desc) .e) .e)) (.n none (.n none (.n none (lf t285.desc) .e) .e) (nd t125.desc .e (lf t252.desc))))))) (nd t2.desc (nd t4.desc (.n none (nd t16.desc (nd t32.desc (.n none (lf t128.desc) .e) .e) (nd t48.desc .e (.n none .e (.n none (lf t367.desc) .e)))) (nd t23.desc (.n none (nd t72.desc .e (lf t199.desc)) .e) (.n none .e (.n none (lf t183.desc) (lf t248.desc))))) (.n none (.n none (nd t36.desc (nd t68.desc (.n none .e (lf t388.desc)) .e) (.n none (lf t70.desc) .e)) (nd t52.desc (.n none (.n none (lf t3.desc) .e) (lf t212.desc)) .e)) (.n none (.n none .e (nd t108.desc (.n none (lf t300.desc) .e) .e)) (nd t60.desc (nd t92.desc (lf t155.desc) (lf t219.desc)) (nd t123.desc (lf t188.desc) (lf t252.desc)))))) (nd t5.desc (.n none (.n none (nd t34.desc (.n none (lf t130.desc) .e) .e) (nd t50.desc (.n none .e (lf t209.desc)) .e)) (.n none (.n none (nd t74.desc (lf t138.desc) (nd t202.desc (lf t329.desc) .e)) (nd t106.desc .e (nd t234.desc (lf t362.desc) .e))) (.n none (nd t90.desc (nd t154.desc .e (lf t410.desc)) .e) (lf t122.desc)))) (.n none (nd t22.desc (nd t37.desc (lf t70.desc) (.n none (lf t166.desc) .e)) (.n none (.n none .e (nd t213.desc (lf t342.desc) .e)) (.n none (nd t181.desc (lf t309.desc) .e) (lf t246.desc)))) (.n none (nd t46.desc (.n none (.n none (lf t270.desc) .e) .e) (nd t110.desc (.n none (lf t301.desc) .e) .e)) (.n none .e (.n none .e (lf t254.desc))))))))
noncomputable def Ra:T Nat:=(nd 1 (nd 1 (nd 1 (nd 4 (.n none (.n none (nd 1 (nd 1 (lf 2) .e) .e) (.n none (.n none (lf 1) .e) .e)) (nd 3 .e (nd 4 .e (.n none (lf 1) .e)))) (nd 4 (.n none (nd 3 .e (nd 1 (lf 1) .e)) (nd 1 (lf 3) .e)) (.n none (lf 1) (.n none (lf 8) .e)))) (.n none (.n none (nd 1 (.n none (lf 11) (.n none (lf 1) .e)) (.n none (lf 1) .e)) (nd 11 (nd 1 .e (.n none (lf 1) .e)) (.n none (lf 1) .e))) (.n none (.n none (nd 19 (lf 3) .e) (nd 1 .e (lf 21))) (.n none (nd 6 (nd 1 (lf 1) (lf 0)) (lf 1)) (nd 2 (nd 1 (lf 1) .e) .e))))) (nd 1 (nd 1 (.n none (.n none (.n none (lf 1) .e) .e) (nd 8 (nd 1 .e (lf 4)) .e)) (nd 1 (.n none (nd 3 .e (.n none (lf 2) .e)) .e) (.n none (nd 1 (.n none .e (lf 0)) (lf 1)) .e))) (.n none (.n none (nd 3 (lf 2) (nd 1 (nd 1 (lf 1) .e) .e)) (.n none (.n none .e (lf 2)) (.n none (nd 6 (lf 1) .e) .e))) (nd 1 (.n none (.n none .e (lf 1)) (.n none (.n none (lf 1) .e) .e)) (.n none (.n none (.n none (lf 1) .e) .e) (nd 1 .e (lf 1))))))) (nd 1 (nd 1 (.n none (nd 1 (nd 1 (.n none (lf 1) .e) .e) (nd 8 .e (.n none .e (.n none (lf 1) .e)))) (nd 4 (.n none (nd 3 .e (lf 1)) .e) (.n none .e (.n none (lf 8) (lf 1))))) (.n none (.n none (nd 1 (nd 2 (.n none .e (lf 16)) .e) (.n none (lf 3) .e)) (nd 1 (.n none (.n none (lf 1) .e) (lf 1)) .e)) (.n none (.n none .e (nd 1 (.n none (lf 1) .e) .e)) (nd 1 (nd 1 (lf 1) (lf 1)) (nd 2 (lf 1) (lf 1)))))) (nd 1 (.n none (.n none (nd 1 (.n none (lf 11) .e) .e) (nd 11 (.n none .e (lf 4)) .e)) (.n none (.n none (nd 19 (lf 3) (nd 1 (lf 2) .e)) (nd 1 .e (nd 21 (lf 1) .e))) (.n none (nd 6 (nd 1 .e (lf 0)) .e) (lf 1)))) (.n none (nd 1 (nd 3 (lf 3) (.n none (lf 3) .e)) (.n none (.n none .e (nd 2 (lf 1) .e)) (.n none (nd 6 (lf 1) .e) (lf 1)))) (.n none (nd 3 (.n none (.n none (lf 1) .e) .e) (nd 4 (.n none (lf 1) .e) .e)) (.n none .e (.n none .e (lf 2))))))))
noncomputable def Q6:T Nat:=(nd 0 (nd 8 (nd 8 (nd 24 (.n none (.n none (nd 8 (nd 8 (lf 32) .e) .e) (.n none (.n none (lf 8) .e) .e)) (nd 48 .e (nd 32 .e (.n none (lf 4) .e)))) (nd 48 (.n none (nd 24 .e (nd 8 (lf 8) .e)) (nd 8 (lf 24) .e)) (.n none (lf 8) (.n none (lf 80) .e)))) (.n none (.n none (nd 24 (.n none (lf 104) (.n none (lf 8) .e)) (.n none (lf 8) .e)) (nd 96 (nd 8 .e (.n none (lf 24) .e)) (.n none (lf 24) .e))) (.n none (.n none (nd 176 (lf 24) .e) (nd 8 .e (lf 192))) (.n none (nd 80 (nd 8 (lf 4) (lf 0)) (lf 8)) (nd 32 (nd 24 (lf 8) .e) .e))))) (nd 1 (nd 16 (.n none (.n none (.n none (lf 8) .e) .e) (nd 48 (nd 8 .e (lf 32)) .e)) (nd 24 (.n none (nd 24 .e (.n none (lf 32) .e)) .e) (.n none (nd 24 (.n none .e (lf 0)) (lf 8)) .e))) (.n none (.n none (nd 72 (lf 16) (nd 8 (nd 8 (lf 8) .e) .e)) (.n none (.n none .e (lf 32)) (.n none (nd 48 (lf 8) .e) .e))) (nd 8 (.n none (.n none .e (lf 24)) (.n none (.n none (lf 24) .e) .e)) (.n none (.n none (.n none (lf 8) .e) .e) (nd 8 .e (lf 24))))))) (nd 8 (nd 1 (.n none (nd 8 (nd 24 (.n none (lf 8) .e) .e) (nd 48 .e (.n none .e (.n none (lf 4) .e)))) (nd 48 (.n none (nd 24 .e (lf 8)) .e) (.n none .e (.n none (lf 80) (lf 8))))) (.n none (.n none (nd 24 (nd 16 (.n none .e (lf 64)) .e) (.n none (lf 24) .e)) (nd 8 (.n none (.n none (lf 8) .e) (lf 24)) .e)) (.n none (.n none .e (nd 8 (.n none (lf 8) .e) .e)) (nd 8 (nd 8 (lf 8) (lf 8)) (nd 32 (lf 24) (lf 24)))))) (nd 1 (.n none (.n none (nd 8 (.n none (lf 104) .e) .e) (nd 96 (.n none .e (lf 32)) .e)) (.n none (.n none (nd 176 (lf 24) (nd 8 (lf 32) .e)) (nd 8 .e (nd 192 (lf 8) .e))) (.n none (nd 80 (nd 8 .e (lf 0)) .e) (lf 24)))) (.n none (nd 24 (nd 72 (lf 24) (.n none (lf 24) .e)) (.n none (.n none .e (nd 32 (lf 8) .e)) (.n none (nd 48 (lf 8) .e) (lf 8)))) (.n none (nd 48 (.n none (.n none (lf 24) .e) .e) (nd 32 (.n none (lf 24) .e) .e)) (.n none .e (.n none .e (lf 32))))))))
noncomputable def Rc:T AV:=(nd (.bj []) (nd (.bh) (nd (.int .i64 0) (nd (.agg [.int .i64 0, .int .i64 0, .bool false, .int .u8 0]) (.n none (.n none (nd (.bh) (nd (.aF) (lf (.agg [.nils, .int .i64 0])) .e) .e) (.n none (.n none (lf (.aF)) .e) .e)) (nd (.agg [.str [], .str [], .str []]) .e (nd (.agg [.aY, .aY, .aY, .aF]) .e (.n none (lf (.agg [.int .u32 0])) .e)))) (nd (.agg [.int .i64 0, .int .i64 0, .int .i64 0, .nils]) (.n none (nd (.agg [.int .i64 0, .int .i64 0, .int .i64 0]) .e (nd (.bh) (lf (.aF)) .e)) (nd (.bh) (lf (.agg [.aY, .int .i64 0, .bool false])) .e)) (.n none (lf (.aF)) (.n none (lf (.agg [.aF, .int .i64 0, .int .i64 0, .int .i64 0, .int .i64 0, .int .i64 0, .aF, .nils])) .e)))) (.n none (.n none (nd (.nils) (.n none (lf (.agg [.int .i64 0, .int .i64 0, .int .i64 0, .nils, .aF, .int .i64 0, .int .i64 0, .aF, .aF, .aF, .int .i64 0])) (.n none (lf (.int .u64 0)) .e)) (.n none (lf (.bh)) .e)) (nd (.agg [.str [], .str [], .str [], .str [], .bool false, .bool false, .bool false, .bool false, .int .i64 0, .int .i64 0, .int .i64 0]) (nd (.aY) .e (.n none (lf (.nils)) .e)) (.n none (lf (.nils)) .e))) (.n none (.n none (nd (.agg [.int .i64 0, .int .i64 0, .int .i64 0, .int .i64 0, .int .i64 0, .int .i64 0, .int .i64 0, .str [], .str [], .str [], .str [], .bool false, .bool false, .bool false, .bool false, .int .i64 0, .int .i64 0, .int .i64 0, .nils]) (lf (.agg [.str [], .bool false, .bool false])) .e) (nd (.aY) .e (lf (.agg [.int .i64 0, .int .i64 0, .int .i64 0, .int .i64 0, .int .i64 0, .int .i64 0, .int .i64 0, .int .i64 0, .int .i64 0, .str [], .str [], .str [], .str [], .bool false, .bool false, .bool false, .bool false, .int .i64 0, .int .i64 0, .int .i64 0, .nils])))) (.n none (nd (.agg [.int .i64 0, .int .i64 0, .int .i64 0, .nils, .nils, .aF]) (nd (.agg [.aY]) (lf (.int .u32 0)) (lf (.agg []))) (lf (.bh))) (nd (.agg [.nils, .int .i64 0]) (nd (.nils) (lf (.bh)) .e) .e))))) (nd (.int .u8 0) (nd (.str []) (.n none (.n none (.n none (lf (.aF)) .e) .e) (nd (.agg [.str [], .bool false, .bool false, .bool false, .bool false, .int .i64 0, .int .i64 0, .int .i64 0]) (nd (.bh) .e (lf (.agg [.int .i64 0, .int .i64 0, .int .i64 0, .int .i64 0]))) .e)) (nd (.nils) (.n none (nd (.agg [.int .i64 0, .int .i64 0, .int .i64 0]) .e (.n none (lf (.agg [.nils, .int .i64 0])) .e)) .e) (.n none (nd (.nils) (.n none .e (lf (.agg []))) (lf (.bh))) .e))) (.n none (.n none (nd (.agg [.nils, .nils, .nils]) (lf (.agg [.int .i64 0, .int .i64 0])) (nd (.bh) (nd (.aY) (lf (.aF)) .e) .e)) (.n none (.n none .e (lf (.agg [.int .i64 0, .nils]))) (.n none (nd (.agg [.int .i64 0, .int .i64 0, .int .i64 0, .int .i64 0, .int .i64 0, .aF]) (lf (.bh)) .e) .e))) (nd (.int .i64 0) (.n none (.n none .e (lf (.nils))) (.n none (.n none (lf (.agg [.nils])) .e) .e)) (.n none (.n none (.n none (lf (.int .u64 0)) .e) .e) (nd (.aF) .e (lf (.agg [.nils])))))))) (nd (.int .i64 0) (nd (.bool false) (.n none (nd (.aF) (nd (.nils) (.n none (lf (.aF)) .e) .e) (nd (.agg [.str [], .bool false, .bool false, .bool false, .bool false, .int .i64 0, .int .i64 0, .int .i64 0]) .e (.n none .e (.n none (lf (.agg [.int .u32 0])) .e)))) (nd (.agg [.int .i64 0, .int .i64 0, .int .i64 0, .nils]) (.n none (nd (.agg [.int .i64 0, .int .i64 0, .int .i64 0]) .e (lf (.bh))) .e) (.n none .e (.n none (lf (.agg [.aF, .int .i64 0, .int .i64 0, .int .i64 0, .int .i64 0, .int .i64 0, .aF, .nils])) (lf (.aF)))))) (.n none (.n none (nd (.nils) (nd (.agg [.int .i64 0, .int .i64 0]) (.n none .e (lf (.agg [.int .u32 0, .int .u32 0, .int .u32 0, .int .u32 0, .int .u32 0, .int .u32 0, .int .u32 0, .int .u32 0, .int .u32 0, .int .u32 0, .int .u32 0, .int .u32 0, .int .u32 0, .int .u32 0, .int .u32 0, .int .u32 0]))) .e) (.n none (lf (.agg [.int .i64 0, .int .i64 0, .int .i64 0])) .e)) (nd (.aF) (.n none (.n none (lf (.int .i64 0)) .e) (lf (.nils))) .e)) (.n none (.n none .e (nd (.aF) (.n none (lf (.aF)) .e) .e)) (nd (.aY) (nd (.aF) (lf (.agg [.aY])) (lf (.bh))) (nd (.agg [.nils, .int .i64 0]) (lf (.nils)) (lf (.agg [.nils]))))))) (nd (.int .u8 0) (.n none (.n none (nd (.aF) (.n none (lf (.agg [.int .i64 0, .int .i64 0, .int .i64 0, .nils, .aF, .int .i64 0, .int .i64 0, .aF, .aF, .aF, .int .i64 0])) .e) .e) (nd (.agg [.str [], .str [], .str [], .str [], .bool false, .bool false, .bool false, .bool false, .int .i64 0, .int .i64 0, .int .i64 0]) (.n none .e (lf (.agg [.int .i64 0, .int .i64 0, .int .i64 0, .int .i64 0]))) .e)) (.n none (.n none (nd (.agg [.int .i64 0, .int .i64 0, .int .i64 0, .int .i64 0, .int .i64 0, .int .i64 0, .int .i64 0, .str [], .str [], .str [], .str [], .bool false, .bool false, .bool false, .bool false, .int .i64 0, .int .i64 0, .int .i64 0, .nils]) (lf (.agg [.str [], .bool false, .bool false])) (nd (.bh) (lf (.agg [.nils, .int .i64 0])) .e)) (nd (.aY) .e (nd (.agg [.int .i64 0, .int .i64 0, .int .i64 0, .int .i64 0, .int .i64 0, .int .i64 0, .int .i64 0, .int .i64 0, .int .i64 0, .str [], .str [], .str [], .str [], .bool false, .bool false, .bool false, .bool false, .int .i64 0, .int .i64 0, .int .i64 0, .nils]) (lf (.aF)) .e))) (.n none (nd (.agg [.int .i64 0, .int .i64 0, .int .i64 0, .nils, .nils, .aF]) (nd (.aY) .e (lf (.agg []))) .e) (lf (.nils))))) (.n none (nd (.nils) (nd (.agg [.nils, .nils, .nils]) (lf (.agg [.int .i64 0, .int .i64 0, .int .i64 0])) (.n none (lf (.agg [.aY, .int .i64 0, .bool false])) .e)) (.n none (.n none .e (nd (.agg [.int .i64 0, .nils]) (lf (.aF)) .e)) (.n none (nd (.agg [.int .i64 0, .int .i64 0, .int .i64 0, .int .i64 0, .int .i64 0, .aF]) (lf (.bh)) .e) (lf (.int .u64 0))))) (.n none (nd (.agg [.str [], .str [], .str []]) (.n none (.n none (lf (.nils)) .e) .e) (nd (.agg [.aY, .aY, .aY, .aF]) (.n none (lf (.agg [.nils])) .e) .e)) (.n none .e (.n none .e (lf (.agg [.nils, .int .i64 0])))))))))
noncomputable def Q5:T Bool:=(nd false (nd false (nd false (nd true (.n none (.n none (nd false (nd false (lf true) .e) .e) (.n none (.n none (lf false) .e) .e)) (nd true .e (nd true .e (.n none (lf true) .e)))) (nd true (.n none (nd true .e (nd false (lf false) .e)) (nd false (lf true) .e)) (.n none (lf false) (.n none (lf true) .e)))) (.n none (.n none (nd false (.n none (lf true) (.n none (lf false) .e)) (.n none (lf false) .e)) (nd true (nd false .e (.n none (lf false) .e)) (.n none (lf false) .e))) (.n none (.n none (nd true (lf true) .e) (nd false .e (lf true))) (.n none (nd true (nd true (lf false) (lf true)) (lf false)) (nd true (nd false (lf false) .e) .e))))) (nd false (nd false (.n none (.n none (.n none (lf false) .e) .e) (nd true (nd false .e (lf true)) .e)) (nd false (.n none (nd true .e (.n none (lf true) .e)) .e) (.n none (nd false (.n none .e (lf true)) (lf false)) .e))) (.n none (.n none (nd true (lf true) (nd false (nd false (lf false) .e) .e)) (.n none (.n none .e (lf true)) (.n none (nd true (lf false) .e) .e))) (nd false (.n none (.n none .e (lf false)) (.n none (.n none (lf true) .e) .e)) (.n none (.n none (.n none (lf false) .e) .e) (nd false .e (lf true))))))) (nd false (nd false (.n none (nd false (nd false (.n none (lf false) .e) .e) (nd true .e (.n none .e (.n none (lf true) .e)))) (nd true (.n none (nd true .e (lf false)) .e) (.n none .e (.n none (lf true) (lf false))))) (.n none (.n none (nd false (nd true (.n none .e (lf true)) .e) (.n none (lf true) .e)) (nd false (.n none (.n none (lf false) .e) (lf false)) .e)) (.n none (.n none .e (nd false (.n none (lf false) .e) .e)) (nd false (nd false (lf true) (lf false)) (nd true (lf false) (lf true)))))) (nd false (.n none (.n none (nd false (.n none (lf true) .e) .e) (nd true (.n none .e (lf true)) .e)) (.n none (.n none (nd true (lf true) (nd false (lf true) .e)) (nd false .e (nd true (lf false) .e))) (.n none (nd true (nd false .e (lf true)) .e) (lf false)))) (.n none (nd false (nd true (lf true) (.n none (lf true) .e)) (.n none (.n none .e (nd true (lf false) .e)) (.n none (nd true (lf false) .e) (lf false)))) (.n none (nd true (.n none (.n none (lf false) .e) .e) (nd true (.n none (lf true) .e) .e)) (.n none .e (.n none .e (lf true))))))))
noncomputable def QN:T Bool:=(nd false (nd false (nd false (nd false (.n none (.n none (nd false (nd false (lf false) .e) .e) (.n none (.n none (lf false) .e) .e)) (nd false .e (nd false .e (.n none (lf false) .e)))) (nd false (.n none (nd false .e (nd false (lf false) .e)) (nd false (lf false) .e)) (.n none (lf false) (.n none (lf false) .e)))) (.n none (.n none (nd false (.n none (lf false) (.n none (lf false) .e)) (.n none (lf false) .e)) (nd false (nd false .e (.n none (lf false) .e)) (.n none (lf false) .e))) (.n none (.n none (nd false (lf false) .e) (nd false .e (lf false))) (.n none (nd false (nd false (lf false) (lf true)) (lf false)) (nd false (nd false (lf false) .e) .e))))) (nd false (nd false (.n none (.n none (.n none (lf false) .e) .e) (nd false (nd false .e (lf false)) .e)) (nd false (.n none (nd false .e (.n none (lf false) .e)) .e) (.n none (nd false (.n none .e (lf false)) (lf false)) .e))) (.n none (.n none (nd false (lf false) (nd false (nd false (lf false) .e) .e)) (.n none (.n none .e (lf false)) (.n none (nd false (lf false) .e) .e))) (nd false (.n none (.n none .e (lf false)) (.n none (.n none (lf false) .e) .e)) (.n none (.n none (.n none (lf false) .e) .e) (nd false .e (lf false))))))) (nd false (nd false (.n none (nd false (nd false (.n none (lf false) .e) .e) (nd false .e (.n none .e (.n none (lf false) .e)))) (nd false (.n none (nd false .e (lf false)) .e) (.n none .e (.n none (lf false) (lf false))))) (.n none (.n none (nd false (nd false (.n none .e (lf false)) .e) (.n none (lf false) .e)) (nd false (.n none (.n none (lf false) .e) (lf false)) .e)) (.n none (.n none .e (nd false (.n none (lf false) .e) .e)) (nd false (nd false (lf false) (lf false)) (nd false (lf false) (lf false)))))) (nd false (.n none (.n none (nd false (.n none (lf false) .e) .e) (nd false (.n none .e (lf false)) .e)) (.n none (.n none (nd false (lf false) (nd false (lf false) .e)) (nd false .e (nd false (lf false) .e))) (.n none (nd false (nd false .e (lf true)) .e) (lf false)))) (.n none (nd false (nd false (lf false) (.n none (lf false) .e)) (.n none (.n none .e (nd false (lf false) .e)) (.n none (nd false (lf false) .e) (lf false)))) (.n none (nd false (.n none (.n none (lf false) .e) .e) (nd false (.n none (lf false) .e) .e)) (.n none .e (.n none .e (lf false))))))))
noncomputable def Q9:T Bool:=(nd false (nd false (nd false (nd false (.n none (.n none (nd false (nd false (lf false) .e) .e) (.n none (.n none (lf false) .e) .e)) (nd false .e (nd false .e (.n none (lf false) .e)))) (nd false (.n none (nd false .e (nd false (lf false) .e)) (nd false (lf false) .e)) (.n none (lf false) (.n none (lf false) .e)))) (.n none (.n none (nd false (.n none (lf false) (.n none (lf false) .e)) (.n none (lf false) .e)) (nd false (nd false .e (.n none (lf false) .e)) (.n none (lf false) .e))) (.n none (.n none (nd false (lf false) .e) (nd false .e (lf false))) (.n none (nd false (nd false (lf false) (lf false)) (lf false)) (nd false (nd false (lf false) .e) .e))))) (nd false (nd false (.n none (.n none (.n none (lf false) .e) .e) (nd false (nd false .e (lf false)) .e)) (nd false (.n none (nd false .e (.n none (lf false) .e)) .e) (.n none (nd false (.n none .e (lf false)) (lf false)) .e))) (.n none (.n none (nd false (lf false) (nd false (nd false (lf false) .e) .e)) (.n none (.n none .e (lf false)) (.n none (nd false (lf false) .e) .e))) (nd false (.n none (.n none .e (lf false)) (.n none (.n none (lf false) .e) .e)) (.n none (.n none (.n none (lf false) .e) .e) (nd false .e (lf false))))))) (nd false (nd false (.n none (nd false (nd false (.n none (lf false) .e) .e) (nd false .e (.n none .e (.n none (lf false) .e)))) (nd false (.n none (nd false .e (lf false)) .e) (.n none .e (.n none (lf false) (lf false))))) (.n none (.n none (nd false (nd false (.n none .e (lf false)) .e) (.n none (lf false) .e)) (nd false (.n none (.n none (lf false) .e) (lf false)) .e)) (.n none (.n none .e (nd false (.n none (lf false) .e) .e)) (nd false (nd false (lf false) (lf false)) (nd false (lf false) (lf false)))))) (nd false (.n none (.n none (nd false (.n none (lf false) .e) .e) (nd false (.n none .e (lf false)) .e)) (.n none (.n none (nd false (lf false) (nd false (lf false) .e)) (nd false .e (nd false (lf false) .e))) (.n none (nd false (nd false .e (lf false)) .e) (lf false)))) (.n none (nd false (nd false (lf false) (.n none (lf false) .e)) (.n none (.n none .e (nd false (lf false) .e)) (.n none (nd false (lf false) .e) (lf false)))) (.n none (nd false (.n none (.n none (lf false) .e) .e) (nd false (.n none (lf false) .e) .e)) (.n none .e (.n none .e (lf false))))))))
noncomputable def Q8:T Func:=(.n none (.n none (.n none (.n none (nd f15 (nd f31 (nd f63 (nd f127 (lf f255) .e) (nd f191 (lf f319) .e)) (nd f95 (nd f159 (lf f287) .e) (nd f223 (lf f351) .e))) (nd f47 (nd f79 (nd f143 (lf f271) .e) (nd f207 (lf f335) .e)) (nd f111 (nd f175 (lf f303) .e) (nd f239 (lf f367) .e)))) (.n none (nd f39 (nd f71 (nd f135 (lf f263) .e) (nd f199 (lf f327) .e)) (nd f103 (nd f167 (lf f295) .e) (nd f231 (lf f359) .e))) (nd f55 (nd f87 (nd f151 (lf f279) .e) (nd f215 (lf f343) .e)) (nd f119 (nd f183 (lf f311) .e) (lf f247))))) (nd f11 (nd f19 (nd f35 (nd f67 (nd f131 (lf f259) .e) (nd f195 (lf f323) .e)) (nd f99 (nd f163 (lf f291) .e) (nd f227 (lf f355) .e))) (nd f51 (nd f83 (nd f147 (lf f275) .e) (nd f211 (lf f339) .e)) (nd f115 (nd f179 (lf f307) .e) (nd f243 (lf f371) .e)))) (.n none (nd f43 (nd f75 (nd f139 (lf f267) .e) (nd f203 (lf f331) .e)) (nd f107 (nd f171 (lf f299) .e) (nd f235 (lf f363) .e))) (nd f59 (nd f91 (nd f155 (lf f283) .e) (nd f219 (lf f347) .e)) (nd f123 (nd f187 (lf f315) .e) (lf f251)))))) (.n none (.n none (nd f17 (nd f33 (nd f65 (nd f129 (lf f257) .e) (nd f193 (lf f321) .e)) (nd f97 (nd f161 (lf f289) .e) (nd f225 (lf f353) .e))) (nd f49 (nd f81 (nd f145 (lf f273) .e) (nd f209 (lf f337) .e)) (nd f113 (nd f177 (lf f305) .e) (nd f241 (lf f369) .e)))) (.n none (nd f41 (nd f73 (nd f137 (lf f265) .e) (nd f201 (lf f329) .e)) (nd f105 (nd f169 (lf f297) .e) (nd f233 (lf f361) .e))) (nd f57 (nd f89 (nd f153 (lf f281) .e) (nd f217 (lf f345) .e)) (nd f121 (nd f185 (lf f313) .e) (lf f249))))) (nd f13 (nd f21 (nd f37 (nd f69 (nd f133 (lf f261) .e) (nd f197 (lf f325) .e)) (.n none (nd f165 (lf f293) .e) (nd f229 (lf f357) .e))) (.n none (nd f85 (nd f149 (lf f277) .e) (nd f213 (lf f341) .e)) (nd f117 (nd f181 (lf f309) .e) (nd f245 (lf f373) .e)))) (nd f29 (nd f45 (nd f77 (nd f141 (lf f269) .e) (nd f205 (lf f333) .e)) (nd f109 (nd f173 (lf f301) .e) (nd f237 (lf f365) .e))) (nd f61 (.n none (nd f157 (lf f285) .e) (nd f221 (lf f349) .e)) (nd f125 (nd f189 (lf f317) .e) (lf f253))))))) (.n none (nd f4 (nd f8 (nd f16 (nd f32 (nd f64 (nd f128 (lf f256) .e) (nd f192 (lf f320) .e)) (nd f96 (nd f160 (lf f288) .e) (nd f224 (lf f352) .e))) (nd f48 (nd f80 (nd f144 (lf f272) .e) (nd f208 (lf f336) .e)) (nd f112 (nd f176 (lf f304) .e) (nd f240 (lf f368) .e)))) (nd f24 (nd f40 (nd f72 (nd f136 (lf f264) .e) (nd f200 (lf f328) .e)) (nd f104 (nd f168 (lf f296) .e) (nd f232 (lf f360) .e))) (nd f56 (nd f88 (nd f152 (lf f280) .e) (nd f216 (lf f344) .e)) (nd f120 (nd f184 (lf f312) .e) (lf f248))))) (nd f12 (nd f20 (nd f36 (nd f68 (nd f132 (lf f260) .e) (nd f196 (lf f324) .e)) (.n none (nd f164 (lf f292) .e) (nd f228 (lf f356) .e))) (nd f52 (nd f84 (nd f148 (lf f276) .e) (nd f212 (lf f340) .e)) (nd f116 (nd f180 (lf f308) .e) (nd f244 (lf f372) .e)))) (nd f28 (nd f44 (nd f76 (nd f140 (lf f268) .e) (nd f204 (lf f332) .e)) (nd f108 (nd f172 (lf f300) .e) (nd f236 (lf f364) .e))) (nd f60 (nd f92 (nd f156 (lf f284) .e) (nd f220 (lf f348) .e)) (nd f124 (nd f188 (lf f316) .e) (lf f252)))))) (nd f6 (nd f10 (.n none (nd f34 (nd f66 (nd f130 (lf f258) .e) (nd f194 (lf f322) .e)) (nd f98 (nd f162 (lf f290) .e) (nd f226 (lf f354) .e))) (nd f50 (nd f82 (nd f146 (lf f274) .e) (nd f210 (lf f338) .e)) (nd f114 (nd f178 (lf f306) .e) (nd f242 (lf f370) .e)))) (.n none (nd f42 (nd f74 (nd f138 (lf f266) .e) (nd f202 (lf f330) .e)) (nd f106 (nd f170 (lf f298) .e) (nd f234 (lf f362) .e))) (.n none (nd f90 (nd f154 (lf f282) .e) (nd f218 (lf f346) .e)) (nd f122 (nd f186 (lf f314) .e) (lf f250))))) (nd f14 (.n none (nd f38 (nd f70 (nd f134 (lf f262) .e) (nd f198 (lf f326) .e)) (.n none (nd f166 (lf f294) .e) (nd f230 (lf f358) .e))) (nd f54 (nd f86 (nd f150 (lf f278) .e) (nd f214 (lf f342) .e)) (nd f118 (nd f182 (lf f310) .e) (nd f246 (lf f374) .e)))) (nd f30 (.n none (nd f78 (nd f142 (lf f270) .e) (nd f206 (lf f334) .e)) (nd f110 (nd f174 (lf f302) .e) (nd f238 (lf f366) .e))) (nd f62 (nd f94 (nd f158 (lf f286) .e) (nd f222 (lf f350) .e)) (nd f126 (nd f190 (lf f318) .e) (lf f254))))))))
noncomputable def Q7:T Nat:=qA [(169,1),(201,6),(326,5)]
noncomputable def Tryz.tab:bc:={und:=Rb,siz:=Ra,byt:=Q6,jB:=Rc,agg:=Q5,cmp:= .e,held:=QN,jG:=Q9,fns:=Q8,ext:=Q7,merge:=fun _=>false}
end Go.Proofs
namespace Go.Proofs
open Go Go.Am
def Qn:FuncId:=4
def lk:FuncId:=6
def oO:FuncId:=10
def mR:FuncId:=12
def mS:FuncId:=13
def Ha:FuncId:=14
def mT:FuncId:=15
def oZ:FuncId:=19
def pf:FuncId:=20
def Hf:FuncId:=24
def o7:FuncId:=28
def Hr:FuncId:=31
def sq:FuncId:=32
def sy:FuncId:=33
def mZ:FuncId:=34
def Qq:FuncId:=35
def PK:FuncId:=36
def Hq:FuncId:=37
def sC:FuncId:=47
def lh:FuncId:=48
def pg:FuncId:=49
def sB:FuncId:=50
def oY:FuncId:=51
def Hg:FuncId:=54
def lr:FuncId:=55
def sr:FuncId:=56
def lv:FuncId:=57
def He:FuncId:=60
def Hm:FuncId:=69
def Hk:FuncId:=71
def pq:FuncId:=72
def oL:FuncId:=74
def mW:FuncId:=75
def oV:FuncId:=86
def oN:FuncId:=88
def Ho:FuncId:=89
def sx:FuncId:=90
def oT:FuncId:=91
def oR:FuncId:=94
def mV:FuncId:=95
def oS:FuncId:=96
def lx:FuncId:=97
def ll:FuncId:=98
def ln:FuncId:=99
def Hw:FuncId:=103
def Hb:FuncId:=104
def pe:FuncId:=105
def o8:FuncId:=108
def pv:FuncId:=109
def pw:FuncId:=110
def mX:FuncId:=111
def Hi:FuncId:=113
def oK:FuncId:=126
def o6:FuncId:=127
def vq:FuncId:=128
def G8:FuncId:=129
def lA:FuncId:=130
def oU:FuncId:=131
def oQ:FuncId:=132
def mU:FuncId:=133
def pn:FuncId:=134
def kU:FuncId:=140
def kZ:FuncId:=141
def lg:FuncId:=142
def lu:FuncId:=143
def ph:FuncId:=144
def Hv:FuncId:=145
def G1:FuncId:=147
def PC:FuncId:=148
def Hl:FuncId:=149
def Hp:FuncId:=150
def Hj:FuncId:=151
def pc:FuncId:=154
def Hx:FuncId:=155
def Hd:FuncId:=163
def yr:FuncId:=167
def lj:FuncId:=168
def lq:FuncId:=171
def lz:FuncId:=172
def kY:FuncId:=173
def G9:FuncId:=174
def lp:FuncId:=175
def yu:FuncId:=180
def oM:FuncId:=182
def Hc:FuncId:=191
def po:FuncId:=197
def kW:FuncId:=198
def kV:FuncId:=199
def Hn:FuncId:=216
def kX:FuncId:=220
def o9:FuncId:=222
def oJ:FuncId:=223
def oW:FuncId:=225
def oX:FuncId:=231
def mQ:FuncId:=265
def sm:FuncId:=267
def o5:FuncId:=271
def Ty.string:TypeId:=9
def P0:TypeId:=38
def si:TypeId:=47
def yp:TypeId:=51
def sb:TypeId:=69
def Ty.nN:TypeId:=71
def QI:TypeId:=75
def HB:TypeId:=164
noncomputable abbrev oG:bc:=Tryz.tab
theorem Tryz.h1:Tryz.tab.und.cZ Tryz.prog.underlying=Tryz.tab.und:=by kernel_rfl
theorem Tryz.h2:Tryz.tab.siz.cZ (fun t=>(Tryz.prog.info? t).map (·.size))=Tryz.tab.siz:=by kernel_rfl
theorem Tryz.h3:Tryz.tab.byt.cZ (fun t=>(Tryz.prog.info? t).map (·.bytes))=Tryz.tab.byt:=by kernel_rfl
theorem Tryz.h4:Tryz.tab.jB.cZ (fun t=>((Tryz.prog.info? t).bind (·.zero)).map ofConst)=Tryz.tab.jB:=by kernel_rfl
theorem Tryz.h5:Tryz.tab.agg.cZ (fun t=>(Tryz.prog.underlying t).map x5)=Tryz.tab.agg:=by kernel_rfl
theorem Tryz.h6:Tryz.tab.held.cZ (fun t=>some (Tryz.prog.stoodInHeld t))=Tryz.tab.held:=by kernel_rfl
theorem Tryz.h7:Tryz.tab.jG.cZ (fun t=>some (Tryz.prog.eqGuardType Tryz.prog.depth t))=Tryz.tab.jG:=by kernel_rfl
theorem Tryz.h8:Tryz.tab.fns.cZ (fun f=>Tryz.prog.funcs[f]?)=Tryz.tab.fns:=by kernel_rfl
theorem Tryz.h9:Tryz.tab.fns.all (fun fn=> !(fn.name== "runtime.NumGoroutine"))=true:=by kernel_rfl
theorem Tryz.iP:bD Tryz.prog Tryz.tab:=bD.of Tryz.h1 Tryz.h2 Tryz.h3 Tryz.h4 Tryz.h5 Tryz.h6 Tryz.h7 Tryz.h8 Tryz.h9
end Go.Proofs
