/- Part 3: an evaluator, proved sound, and its use at this seat; no condition. -/
import Derived.Calls
import Derived.KernelRfl
import Derived.Lib.Bytealg
import Derived.Deep.MidRow
import Derived.Laws.AppendOwn
import Derived.Maps.Own
import Derived.Maps.OwnOps
import Derived.Sort.KeysCollected
import Derived.Sort.EncStr
import Derived.Shelf.SlSortCmp.WholeK
import Derived.Shelf.SlIter.Nil
import Derived.Shelf.SortM.Plain
import Derived.Shelf.SortM.SortNone
import Derived.Shelf.SlicesE.Clone
import Derived.Test.YtmfohfbdddlilaaGreatProg
import Derived.WalkKit
import Derived.Test.YtmfohfbdddlilaaGreatP1
import Derived.Test.YtmfohfbdddlilaaGreatP2
set_option linter.unusedSimpArgs false
set_option linter.unusedVariables false
set_option linter.unusedSectionVars false
set_option linter.deprecated false
set_option maxRecDepth 100000
set_option maxHeartbeats 4000000
namespace Go.Sy
open Go.Am Go.RowKit
section
universe u v
variable [Inhabited aD]
section
variable {P:Program} {tab:aR} {cfg:gR} {ops:Array Oper} {nt:Nat} {rec:SM->(SV->St->Prop)->Prop}
theorem Kd {p:Nat}:∀{l:List Ev},p∈jr l->∃e∈l,e.id=p:=by
 intro l;induction l with
 |nil=>intro h;cases h
 | cons e l ih=>
  intro h
  cases e with
  |kill b=>
   rcases Ag.1 h with rfl|h
   . exact⟨_,An,rfl⟩
   . obtain⟨e,h1,h2⟩:=ih h;exact⟨e,Al _ h1,h2⟩
  |mod b=>
   rcases Ag.1 h with rfl|h
   . exact⟨_,An,rfl⟩
   . obtain⟨e,h1,h2⟩:=ih h;exact⟨e,Al _ h1,h2⟩
  |eg b X L enc=>obtain⟨e,h1,h2⟩:=ih h;exact⟨e,Al _ h1,h2⟩
theorem F3 {log:List Ev} {b:Nat} (h:(!(bS b (log.map Ev.id)))=true):∀e∈log,e.id≠b:=by
 intro e he hb;have:bS b (log.map Ev.id)=true:=cu.2 (Ar.2 ⟨e,he,hb⟩);rw[this]at h;cases h
theorem HS.bare {C C':Cx} {h h':SH} {a h1:AH} {log:List Ev} {hid hidA:List (Nat×Nat)} (H:HS tab C h a) (hal:jK C h hid hidA) (hT:Tr C log C') (H':HS tab C' h' h1) (hG:Grow (gu a hidA) h1) (hm:∀x∈hid,∀e∈log,e.id≠x.2):
   HS tab C' (j3 h' h log hid) (gN h1 a hidA)/\(∀i b,h1.get i=some b->(gN h1 a hidA).get i=h1.get i)/\(∀y∈hidA,h1.get y.2=none)/\(∀x∈hid,∀o I,h.get x.2=some o->C.ρ x.2=some I->I.cap.isSome->(gN h1 a hidA).get I.β=a.get I.β/\ ∃o',(j3 h' h log hid).get x.2=some o'/\C'.ρ x.2=some I):=by
 have hlt:∀y∈hidA,y.2<a.next:=by
   intro y hy;obtain⟨x,hx,o,I,g1,g2,g3,g4⟩:=hal.right y hy;obtain⟨b,hb⟩:=(H.at_ g1 g2).live g3;rw[<-g4];exact H.wf _ _ hb
 have hnone:∀y∈hidA,h1.get y.2=none:=by
   intro y hy
   cases hz:h1.get y.2 with
   |none=>rfl
   | some b=>
     rcases hG.old _ _ hz with⟨o0,h0⟩|hge
     . rw[gy,if_pos ⟨y,hy,rfl⟩]at h0;cases h0
     . rw[hU]at hge;have:=hlt y hy;omega
 have hlive:∀i b,h1.get i=some b->(gN h1 a hidA).get i=h1.get i:=by
   intro i b hi;rw[mA,if_neg];rintro⟨y,hy,rfl⟩;rw[hnone y hy]at hi;cases hi
 have hhid:∀x∈hid,∀o I,h.get x.2=some o->C.ρ x.2=some I->I.cap.isSome->(gN h1 a hidA).get I.β=a.get I.β/\h1.get I.β=none/\ ∃o',(j3 h' h log hid).get x.2=some o'/\C'.ρ x.2=some I/\dh tab C' I o' (gN h1 a hidA):=by
   intro x hx o I ho hI hc;obtain⟨o1,I1,g1,g2,g3,y,hy,g4⟩:=hal.left x hx;rw[hI]at g2;cases g2;have e1:(gN h1 a hidA).get I.β=a.get I.β:=by rw[mA,if_pos ⟨y,hy,g4⟩]
   obtain⟨o',k1,k2⟩:=Ki o log;refine⟨e1,by rw[<-g4];exact hnone y hy,o',?_,hT.same hI hc (hm x hx),k2 hT e1 (H.at_ ho hI)⟩;rw[oc,if_pos ⟨x,hx,rfl⟩,ho];exact k1
 refine⟨⟨?_,?_,?_,?_,?_,?_⟩,hlive,hnone,fun x hx o I ho hI hc=>?_⟩
 . intro p o hp;rw[oc]at hp;split at hp
   . rename_i hex;obtain⟨x,hx,rfl⟩:=hex;obtain⟨o1,I1,g1,g2,g3,_⟩:=hal.left x hx;obtain⟨_,_,o',k1,k2,k3⟩:=hhid x hx o1 I1 g1 g2 g3;rw[oc,if_pos ⟨x,hx,rfl⟩,hp]at k1
     cases k1;exact⟨I1,k2,k3⟩
   . obtain⟨I,hI,ho⟩:=H'.obj p o hp;refine⟨I,hI,?_⟩;by_cases hc:I.cap.isSome
     . obtain⟨b,hb⟩:=ho.live hc;exact ho.congr (hlive _ _ hb)
     . cases o with
       |cells cs t=>exact absurd ho.1 hc
       |arr X L enc t=>
        obtain⟨g1,g2,g3,g4,g5⟩:=ho;refine⟨g1,g2,g3,g4,?_⟩
        cases hcap:I.cap with
        |none=>rw[hcap]at g5;exact g5
        |some c=>rw[hcap]at hc;simp at hc
 . have key:∀p q o' I J,(∃x∈hid,x.2=p)->h'.get q=some o'->C'.ρ p=some I->C'.ρ q=some J->I.cap.isSome->J.cap.isSome->I.β≠J.β:=by
     rintro p q o' I J ⟨x,hx,rfl⟩ hq hI hJ hc hc' e;obtain⟨o1,I1,g1,g2,g3,_⟩:=hal.left x hx;obtain⟨_,k0,_,_,k2,_⟩:=hhid x hx o1 I1 g1 g2 g3;rw[hI]at k2;cases k2;obtain⟨b,hb⟩:=(H'.at_ hq hJ).live hc';rw[<-e,k0]at hb;cases hb
   intro p q o o' I J hp hq hI hJ hc hc' e;rw[oc]at hp hq;split at hp
   . rename_i h3;split at hq
     . rename_i h4;obtain⟨x,hx,rfl⟩:=h3;obtain⟨z,hz,rfl⟩:=h4;obtain⟨o1,I1,g1,g2,g3,_⟩:=hal.left x hx;obtain⟨_,_,_,_,k2,_⟩:=hhid x hx o1 I1 g1 g2 g3;obtain⟨o2,I2,q1,q2,q3,_⟩:=hal.left z hz;obtain⟨_,_,_,_,k3,_⟩:=hhid z hz o2 I2 q1 q2 q3;rw[hI]at k2;cases k2;rw[hJ]at k3;cases k3;exact H.inj _ _ o1 o2 I J g1 q1 g2 q2 g3 q3 e
     . exact absurd e (key p q o' I J h3 hq hI hJ hc hc')
   . split at hq
     . rename_i h4;exact absurd e.symm (key q p o J I h4 hp hJ hI hc' hc)
     . exact H'.inj p q o o' I J hp hq hI hJ hc hc' e
 . intro i o hi;have:=H'.fz i o hi;rw[hlive i o this];exact this
 . intro p o I hp hI hc;rw[oc]at hp;split at hp
   . rename_i h3;obtain⟨x,hx,rfl⟩:=h3;obtain⟨o1,I1,g1,g2,g3,_⟩:=hal.left x hx;obtain⟨_,k0,_,_,k2,_⟩:=hhid x hx o1 I1 g1 g2 g3;rw[hI]at k2;cases k2
     cases hz:C'.Fz I.β with
     |none=>rfl
     | some b=>
       have:=H'.fz _ _ hz;rw[k0]at this;cases this
   . exact H'.dj p o I hp hI hc
 . intro p I hI;rw[Js];exact H'.lt p I hI
 . intro i o hi;rw[pv];rw[mA]at hi;split at hi
   . have:=H.wf i o hi;have h2:=hG.next;rw[hU]at h2;omega
   . exact H'.wf i o hi
 . obtain⟨k1,_,o',k2,k3,_⟩:=hhid x hx o I ho hI hc;exact⟨k1,o',k2,k3⟩
end
end
section
universe u v
variable [Inhabited aD]
section
variable {P:Program} {tab:aR} {cfg:gR} {ops:Array Oper} {nt:Nat} {rec:SM->(SV->St->Prop)->Prop}
theorem OR (htab:cfg.tab=tab) (hrec:mL P tab rec) (hcon:∀g C,cfg.fS g=some C->bO P tab g C) {C:Cx} {d:SD} {e:DS} {i:Nat} {o:Oper} {K:SD->Prop} (h:nO cfg rec ops nt i o d K) (S:iF tab ops C d e):
   l8 P tab ops nt i o e fun e'=>∃d' C' new,K d'/\iF tab ops C' d' e'/\Prog C d e new C' d' e':=by
 obtain⟨s,aC,reads,ax⟩:=d;obtain⟨hF,H,hanc,hal,hrd⟩:=S;simp only at hF H hanc hal hrd;subst hanc;simp only[nO]at h;obtain⟨hok,h⟩:=cd h;obtain⟨w,s1,h1,hw,hF1,eh,el⟩:=wo h hF;clear h;obtain⟨rfl,h1⟩:=cd h1;have h:=kQ (kQ (tf (kQ h1)));clear h1;obtain⟨ts,hh,log⟩:=s1;simp only at h eh el hF1;subst eh;have halh:=hal.filter (fun j=> !(bS j (dg e.aC o)));generalize hhd:(ax.filter fun x=> !(bS x.1 (dg e.aC o)))=hid at h halh
 generalize hhA:(e.ax.filter fun x=> !(bS x.1 (dg e.aC o)))=hidA at halh
 have hnot:∀p o' I,s.h.get p=some o'->C.ρ p=some I->I.cap.isSome->(¬∃x∈hid,x.2=p)->¬∃y∈hidA,y.2=I.β:=by
   rintro p o' I hp hI hc hn ⟨y,hy,hyb⟩;obtain⟨x,hx,ox,Ix,x1,x2,x3,x4⟩:=halh.right y hy;exact hn ⟨x,hx,(H.inj p x.2 o' ox I Ix hp x1 hI x2 hc x3 (by rw[x4,hyb])).symm⟩
 have hfz:∀j ob,C.Fz j=some ob->¬∃y∈hidA,y.2=j:=by
   rintro j ob hj ⟨y,hy,rfl⟩;obtain⟨x,hx,ox,Ix,x1,x2,x3,x4⟩:=halh.right y hy;have:=H.dj x.2 ox Ix x1 x2 x3;rw[x4,hj]at this;cases this
 have Hh:HS tab C (mO s.h hid) (gu e.h hidA):=by
   refine H.part (J0 _ _) (fun p o' hp=>?_) (fun j ob hj=>?_) (hU _ _) (fun j ob hj=>?_) (fun p o' I hp hI hc=>?_)
   . rw[th]at hp;split at hp
     . cases hp
     . exact hp
   . rw[gy]at hj;split at hj
     . cases hj
     . exact hj
   . rw[gy,if_neg (hfz j ob hj)];exact H.fz j ob hj
   . rw[th]at hp;split at hp
     . cases hp
     . rename_i hn;rw[gy,if_neg (hnot p o' I hp hI hc hn)]
 have heff:=Fj (s:=⟨ts,mO s.h hid,[]⟩) (ta:=e.ts) htab hrec hcon h hF1 Hh;refine⟨hok,hw,?_⟩;rw[hhA];refine heff.mono ?_;rintro v h1 hle ⟨sv,s',hk,⟨⟨C',new,e1,e2,e3,e4,e5,e6⟩,e7⟩⟩;obtain⟨ts',h',log'⟩:=s';simp only[BJ]at e1 hk e4 e5;subst e1;obtain⟨hck,hk⟩:=cd hk;simp only[Ab,AA]at hck;obtain⟨hck1,hck2⟩:=hck;obtain⟨B1,B2,B3,B4⟩:=H.bare halh e2 e4 e7 (fun x hx=>F3 (hck2 x hx));obtain⟨s2,k1,k2,k3,k4⟩:=pT (s:=⟨ts',j3 h' s.h log' hid,log++log'⟩) hk e5 e3;have hread:∀x∈e.reads.filter (fun x=> !(bS x.1 (dg e.aC o))),∃rs,(x.1,rs)∈reads.filter (fun x=> !(bS x.1 (dg e.aC o)))/\pq tab ops C s.h e.h x rs/\
     ∀p∈rs,(∀e∈log',e.id≠p)/\(h'.get p).isSome/\ ¬∃y∈hid,y.2=p:=by
   intro x hx;obtain⟨hx1,hx2⟩:=Au.1 hx;obtain⟨rs,g1,g2⟩:=hrd x hx1;have hm:(x.1,rs)∈reads.filter (fun x=> !(bS x.1 (dg e.aC o))):=Au.2 ⟨g1,hx2⟩;refine⟨rs,hm,g2,fun p hp=>?_⟩;have h5:=hck1 _ hm p hp;refine⟨F3 h5.1.1,h5.1.2,?_⟩;rintro⟨y,hy,rfl⟩;have h6:=h5.2 y hy;simp at h6
 have hkeep:∀p o' I,s.h.get p=some o'->C.ρ p=some I->I.cap.isSome->(∀e∈log',e.id≠p)->(h'.get p).isSome->(¬∃y∈hid,y.2=p)->
     (gN h1 e.h hidA).get I.β=e.h.get I.β/\ ∃o',(j3 h' s.h log' hid).get p=some o'/\C'.ρ p=some I:=by
   intro p o' I hp hI hc hm hs hn;obtain⟨k,_⟩:=e6 p o' I (by simp only;rw[th,if_neg hn];exact hp) hI hc (fun hmm=>by
     obtain⟨e',he',hid'⟩:=Kd hmm;exact hm e' he' hid')
   rw[gy,if_neg (hnot p o' I hp hI hc hn)]at k;obtain⟨o2,ho2⟩:=By.1 hs;refine⟨?_,o2,by rw[oc,if_neg hn];exact ho2,e2.same hI hc hm⟩;rw[mA,if_neg (hnot p o' I hp hI hc hn)];exact k
 have hstb:∀x∈e.reads.filter (fun x=> !(bS x.1 (dg e.aC o))),∃rs,(x.1,rs)∈reads.filter (fun x=> !(bS x.1 (dg e.aC o)))/\pq tab ops C' (j3 h' s.h log' hid) (gN h1 e.h hidA) x rs:=by
   intro x hx;obtain⟨rs,g1,g2,g3⟩:=hread x hx;exact⟨rs,g1,g2.mono e2.fz fun p hp o' I hpo hI hc=>hkeep p o' I hpo hI hc (g3 p hp).1 (g3 p hp).2.1 (g3 p hp).2.2⟩
 refine⟨KX fun x hx=>?_,_,C',log',k1,⟨?_,?_,rfl,?_,?_⟩,⟨?_,e2,?_,?_⟩⟩
 . obtain⟨rs,g1,g2,g3⟩:=hread x hx;obtain⟨ox,a0,hx1,q1,q2,q3,qb,q4,q5⟩:=g2;refine⟨ox,_,q1,vF q2 q3 (h:=gu (gN h1 e.h hidA) hidA) (fun β ob hβ=>?_) q4,qb⟩;rcases q5 β ob hβ with hz|⟨hz,p,hp,o',I,p1,p2,p3,rfl⟩
   . rw[gy,if_neg (hfz β ob hz),mA,if_neg (hfz β ob hz)];exact e4.fz _ _ (e2.fz _ _ hz)
   . obtain⟨r1,r2,r3⟩:=g3 p hp;rw[gy,if_neg (hnot p o' I p1 p2 p3 r3),(hkeep p o' I p1 p2 p3 r1 r2 r3).1];exact hz
 . simp only;rw[sO];exact k2
 . simp only;rw[k3];exact B1
 . simp only;rw[k3];exact halh.mono fun x hx o' I hp hI hc=>(B4 x hx o' I hp hI hc).2
 . simp only;rw[k3];exact hstb
 . simp only;rw[k4];simp only;rw[el]
 . refine⟨?_,fun j ob hj=>?_⟩
   . simp only;rw[pv];have:=e7.next;rw[hU]at this;exact this
   . simp only at hj;rw[mA]at hj;split at hj
     . exact .inl ⟨ob,hj⟩
     . rcases e7.old j ob hj with⟨o0,h0⟩|hge
       . rw[gy]at h0;split at h0
         . cases h0
         . exact .inl ⟨o0,h0⟩
       . rw[hU]at hge;exact .inr hge
 . simp only;rw[k3];intro p o' I hp hI hc hm;by_cases hn:∃y∈hid,y.2=p
   . obtain⟨y,hy,rfl⟩:=hn;obtain⟨q1,q2⟩:=B4 y hy o' I hp hI hc;exact⟨q1, .inl q2⟩
   . obtain⟨q1,q2⟩:=e6 p o' I (by simp only;rw[th,if_neg hn];exact hp) hI hc hm;rw[gy,if_neg (hnot p o' I hp hI hc hn)]at q1;refine⟨by rw[mA,if_neg (hnot p o' I hp hI hc hn)];exact q1,?_⟩;rcases q2 with⟨o2,r1,r2⟩|r
     . exact .inl ⟨o2,by simp only;rw[oc,if_neg hn];exact r1,r2⟩
     . exact .inr r
theorem Cp (htab:cfg.tab=tab) (hrec:mL P tab rec) (hcon:∀g C,cfg.fS g=some C->bO P tab g C):w7 P tab cfg rec:=by
 have main:∀(ops:Array Oper) (nt n:Nat) (d:SD) (e:DS) (C:Cx) (K:St->Prop),rD cfg rec ops nt n d K->iF tab ops C d e->
   eW P tab ops nt (fun sF=>∃s' C' new,K s'/\s'.log=d.s.log++new/\Tr C new C'/\HS tab C' s'.h sF.h/\FS C' s'.ts sF.ts/\Grow e.h sF.h/\cr C d.s.h e.h new C' s'.h sF.h) n e:=by
  intro ops nt n;induction n with
  |zero=>intro d e C K h;exact h.elim
  |succ n ih=>
   intro d e C K h S;simp only[rD]at h;obtain⟨e1,d1,C1,g1,g2,g3,g4⟩:=Ob htab ops.toList 0 d e C _ (fun j o hj=>by simpa using hj) h S;refine⟨e1,g1,?_⟩;rw[g3.aC]at g2;split at g2
   . rename_i hc;obtain⟨_,hk⟩:=cd g2;exact .inl ⟨hc,d1.s,C1,[],hk,g4.log,g4.tr,g3.H,g3.F,g4.grow,g4.bG⟩
   . rename_i c o hc;refine .inr ⟨c,o,hc,?_⟩;obtain⟨q1,q2,q3⟩:=OR htab hrec hcon g2 g3;refine⟨q1,q2,q3.mono fun v h1 _ hΘ=>⟨hΘ.1,?_⟩⟩;obtain⟨d2,C2,new,k1,k2,k3⟩:=hΘ.2;refine eW.mono ?_ _ _ (ih d2 _ C2 K k1 k2);rintro sF ⟨s',C',new',r1,r2,r3,r4,r5,r6,r7⟩;have p:=g4.trans k3 g3.H.fz k2.H.fz;simp only[BJ]at p;exact⟨s',C',new++new',r1,by rw[r2,p.log,A5],p.tr.trans r3,r4,r5,p.grow.trans r6,p.bG.trans r7 r3.fz k2.H.fz r4.fz⟩
   . exact g2.elim
 intro ops nt n s K ta a C h hF H;exact main ops nt n ⟨s, .e,[],[]⟩ {ts:=ta,h:=a,aC:= .e,reads:=[],ax:=[]} C K h ⟨hF,H,rfl,trivial,fun x hx=>by cases hx⟩
theorem Pb (pr:fg P tab) (htab:cfg.tab=tab) (hcon:∀g C,cfg.fS g=some C->bO P tab g C) (n:Nat):mL P tab (wp cfg n):=
 L7 pr htab hcon (fun _ hrec=>Cp htab hrec hcon) n
end
end
section
universe u v
variable [Inhabited aD]
section
variable (cfg:gR)
def oK (e v:SV) (s:St):Prop:=
 match s with
 |⟨_,h,_⟩=>match e,v with
  | .bB es, .bB vs=>dd cfg 1000 es vs ⟨[],h,[]⟩ fun _=>True
  | .bB _,_=>False
  |e,v=>dd cfg 1000 [e] [v] ⟨[],h,[]⟩ fun _=>True
end
section
variable {P:Program} {tab:aR} {cfg:gR}
theorem Ns (htab:cfg.tab=tab) {e v:SV} {s:St} (h:oK cfg e v s) {C:Cx} {a:AH} {av:AV} (H:HS tab C s.h a) (hv:aA C v av):∃Fz':Nat->Option AO,(∀i o,C.Fz i=some o->Fz' i=some o)/\(∀i o,Fz' i=some o->a.get i=some o)/\aF Fz' e av:=by
 obtain⟨ts,hh,log⟩:=s;have one:∀(e v:SV),dd cfg 1000 [e] [v] ⟨[],hh,[]⟩ (fun _=>True)->aA C v av->∃Fz':Nat->Option AO,(∀i o,C.Fz i=some o->Fz' i=some o)/\(∀i o,Fz' i=some o->a.get i=some o)/\aF Fz' e av:=by
   intro e v h hv;obtain⟨C1,new,s1,g1,g2,g3,g4,g5,_,g7⟩:=xc (ta:= .e) htab 1000 _ _ [av] _ C _ h (aM.cons hv aM.nil) (fun t s hs=>by simp[look]at hs) H;exact⟨C1.Fz,g2.fz,g3.fz,g7.2 0 e av rfl rfl⟩
 simp only[oK]at h;split at h
 . rename_i es vs;obtain⟨us,rfl,hs⟩:=um hv;obtain⟨C1,new,s1,g1,g2,g3,g4,g5,_,g7⟩:=xc (ta:= .e) htab 1000 _ _ us _ C _ h hs (fun t s hs=>by simp[look]at hs) H;exact⟨C1.Fz,g2.fz,g3.fz, .bB g7.1 g7.2⟩
 . exact h.elim
 . exact one _ _ h hv
end
end
section
universe u v
variable [Inhabited aD]
def sx (v:SV) (_:St):Prop:=match v with| .bool b=>b=true|_=>False
section
variable {P:Program} {tab:aR} {cfg:gR}
end
end
section
universe u v
variable [Inhabited aD]
section
variable {P:Program} {tab:aR}
theorem dM.shut (ok:bC P tab) {f:FuncId} {fn:Func} {body:Code} {avs:List AV} {Θ:AV->AH->Prop} (hfn:tab.fns.get f=some fn) (hb:fn.body=some body) (hgo:dM P {fr:=ag.enter fn f body avs .normal,cs:=[],h:=ef} Θ)
   (hargs:∀E E',aU E avs=aU E' avs) (hv:∀v h',Θ v h'->∀E E',ae E v=ae E' v) (a:AH):dM P {fr:=ag.enter fn f body avs .normal,cs:=[],h:=a} fun v a'=>a'=a/\ ∃h',Θ v h':=by
 intro D E K base frC csC w hR hB;have hP:=ok.fns f fn hfn;obtain⟨q1,q2,q3⟩:=hR.all E (ai.refl _ _);have hR0:Rel (fun _=>False) E (KS.old w.heap.size) {fr:=ag.enter fn f body avs .normal,cs:=[],h:=ef} base frC csC w:=by
   refine⟨fun E' _=>⟨C5 E' _ w (fun b h=>h) (fun b h=>h),?_,q3⟩,fun i h=>h.elim,hR.wf⟩;rw[<-q2];simp only;rw[<-lO hP hb,<-lO hP hb,hargs E' E]
 obtain⟨v,h',hΘ,fr',w',v',E',D',s1,s2,s3,s4,s5,s6,s7,s8,s9,s10⟩:=hgo _ E _ base frC csC w hR0 (fun b hb=>⟨q1.kb b (hB b hb).1,(hB b hb).2⟩);refine⟨v,a,⟨rfl,h',hΘ⟩,fr',w',v',E,D,s1,s2,s3,fun E'' he=>⟨?_,?_⟩,ai.refl _ _,fun _ h=>h,hR.dE,⟨s8.os,s8.tape,s8.output,s8.size,fun b hb'=>s8.block b (q1.kb b hb'),s8.drawn⟩,Af _,fun i hi=> .inl hi⟩
 . obtain⟨g1,_,_⟩:=hR.all E'' he;refine⟨fun i o hi=>?_,g1.nk,g1.inj,g1.dE,fun b hb'=>AJ (g1.kb b hb') s8.size,g1.im,g1.k0⟩;obtain⟨c,h1,h2⟩:=g1.obj i o hi;refine⟨c,?_,h2⟩;rw[s8.block _ (Aa.1 h1).1];exact h1
 . rw[<-(s4 E' (ai.refl _ _)).2];exact hv v h' hΘ _ _
theorem bO.shut (pr:fg P tab) {f:FuncId} {C:aP} (h:∀fn body,tab.fns.get f=some fn->fn.body=some body->∀y,C.pre y->∀avs Fz,PL Fz (C.args y) avs->(∀E E',aU E avs=aU E' avs)/\ ∃Θ:AV->AH->Prop,dM P {fr:=ag.enter fn f body avs .normal,cs:=[],h:=ef} Θ/\ ∀v h',Θ v h'->(∀E E',ae E v=ae E' v)/\aF (fun _=>none) (C.res y) v):bO P tab f C:=by
 intro fn body hfn hb y hy Fz a avs hfz hwf hlen hav;obtain⟨h1,Θ,h2,h3⟩:=h fn body hfn hb y hy avs Fz ⟨hlen,hav⟩;refine(dM.shut pr.ok hfn hb h2 h1 (fun v h' hv=>(h3 v h' hv).1) a).mono ?_;rintro v a' ⟨rfl,h',hv⟩;exact⟨Fz,fun _ _ h=>h,hfz,(h3 v h' hv).2.mono (fun _ _ h=>by cases h),Grow.refl _,fun _ _ h=>h,hwf,fun _ _ h=> .inl h⟩
theorem dM.run (pr:fg P tab) {n:Nat} {m:AM} {outs:List (AV×AH)} (h:Am.run tab n m= .ok outs):dM P m fun v h'=>(v,h')∈outs:=by
 intro D E K base frC csC w hR hB;exact(KZ pr.ok pr.ext (fun sub hsub=>vO pr.ok hsub pr.ext pr.mix) n).1 m outs h D E K base frC csC w hR
end
end
section
universe u v
variable [Inhabited aD]
def dq (n:Nat):Value->AV
 | .bool b=> .bool b
 | .int k z=> .int k z
 | .string s=> .str s.data.toList
 | .pointer none=> .aQ
 | .slice none 0 0=> .nils
 | .slice (some ⟨b,off,none⟩) (len+1) cap=>if b<n then .sl b off (len+1) (.lit cap)else .raw (.slice (some ⟨b,off,none⟩) (len+1) cap)
 | .map none=> .bg
 | .nilFunc=> .bA
 |v=> .raw v
def dm (n:Nat):Value->AV
 | .agg cs=> .agg (cs.toList.map (dq n))
 |v=>dq n v
theorem zD {n:Nat} {E:Env} (hE:∀i,i<n->E.aN i=i) (v:Value):ae E (dq n v)=v:=by
 unfold dq;split<;>try (simp[ae];done)
 split
 . rename_i b off len cap hb;simp[ae,hE _ hb,fb.val]
 . simp[ae]
theorem zb {n:Nat} {E:Env} (hE:∀i,i<n->E.aN i=i) (l:List Value):aU E (l.map (dq n))=l:=by
 induction l with
 |nil=>rfl
 |cons v l ih=>simp[zD hE,ih]
theorem wi {n:Nat} {E:Env} (hE:∀i,i<n->E.aN i=i) (v:Value):ae E (dm n v)=v:=by
 unfold dm;split
 . simp[ae,zb hE]
 . exact zD hE _
theorem vM {n:Nat} {E:Env} (hE:∀i,i<n->E.aN i=i) (l:List Value):aU E (l.map (dm n))=l:=by
 induction l with
 |nil=>rfl
 |cons v l ih=>simp[wi hE,ih]
def iS (tab:aR) (w:World) (b:Nat):Option AO:=
 match w.heap[b]? with
 |some (.cells arr e _)=>some (.cells (arr.toList.map (dq w.heap.size)) e ((tab.siz.get e).getD 1) false .ro)
 |_=>none
def bK (tab:aR) (w:World):AH:=ofFn w.heap.size (iS tab w)
theorem zY {tab:aR} {w:World} {b:Nat} {o:AO} (h:iS tab w b=some o):∃arr e fz,w.heap[b]? =some (.cells arr e fz)/\o= .cells (arr.toList.map (dq w.heap.size)) e ((tab.siz.get e).getD 1) false .ro:=by
 unfold iS at h;split at h
 . rename_i arr e fz hb
   cases h;exact⟨arr,e,fz,hb,rfl⟩
 . cases h
theorem qW {tab:aR} {w:World} {b:Nat}:(bK tab w).get b=iS tab w b:=by
 unfold bK;rw[oh];split
 . rfl
 . rename_i hb;unfold iS;rw[DG (by omega)]
theorem ow (tab:aR) (w:World) {E:Env} (hE:∀i,i<w.heap.size->E.aN i=i):bm E (bK tab w) (KS.old w.heap.size) w:=by
 have hro:∀i o,(bK tab w).get i=some o->o.ro/\i<w.heap.size:=by
   intro i o hi;rw[qW]at hi;obtain⟨arr,e,fz,hb,rfl⟩:=zY hi;exact⟨trivial,(Aa.1 hb).1⟩
 refine⟨fun i o hi=>?_,fun i o hi hr=>absurd (hro i o hi).1 hr,fun i j oi oj hi hj hr=>absurd (hro i oi hi).1 hr,fun i o hi=>(hro i o hi).2,fun b hb=>hb,fun i o hi _=>?_,fun b hb=>hb⟩
 . rw[qW]at hi;obtain⟨arr,e,fz,hb,rfl⟩:=zY hi;have hlt:=(Aa.1 hb).1;refine⟨_,by rw[hE i hlt];exact hb,arr,fz,rfl,⟨[],by simp[zb hE]⟩,by simp,trivial⟩
 . show E.aN i<w.heap.size
   rw[hE i (hro i o hi).2];exact(hro i o hi).2
theorem tE (n:Nat) (a:Addr) (c:Nat):dq n (.slice (some a) 0 c)= .raw (.slice (some a) 0 c):=by
 unfold dq;split<;>simp_all
theorem Nf {n b off len cap:Nat} (h:len≠0) (hb:b<n):dq n (.slice (some ⟨b,off,none⟩) len cap)= .sl b off len (.lit cap):=by
 cases len with
 |zero=>exact absurd rfl h
 |succ len=>simp[dq,hb]
theorem wP {tab:aR} {w:World} {X:Type} {L:List X} {enc:X->List SV} {b off len cap:Nat} {arr:Array Value} {e:TypeId} {fz:Nat×Nat} {sz:Nat} (hb:w.heap[b]? =some (.cells arr e fz))
   (h0:0<sz) (hn:∀x∈L,(enc x).length=sz) (hl:off+L.length*sz<=arr.size) (hlen:len=L.length) (hcap:len<=cap)
   (hc:∀(i:Nat) x (j:Nat) v,L[i]? =some x->(enc x)[j]? =some v->∃u,arr[off+i*sz+j]? =some u/\aF (bK tab w).get v (dq w.heap.size u)):
   aF (bK tab w).get (.aw X L enc) (dq w.heap.size (.slice (some ⟨b,off,none⟩) len cap)):=by
 have hlt:=(Aa.1 hb).1;have hg:(bK tab w).get b=some (.cells (arr.toList.map (dq w.heap.size)) e ((tab.siz.get e).getD 1) false .ro):=by
   rw[qW];unfold iS;rw[hb]
 subst hlen;by_cases hL:L.length=0
 . rw[hL,tE];exact .bL hL (.inr (.inr ⟨_,_,rfl⟩))
 rw[Nf hL hlt];refine .aw b off (.lit cap) _ e sz false .ro (fun i j=>dq w.heap.size (arr[off+i*sz+j]?.getD (.bool false))) ⟨_,false,hg,fun h=>by cases h⟩ h0 (by simpa using hl) (fun i x hx=>hn x (BC hx)) hcap ?_ ?_
 . intro i x j v hx hv;obtain⟨u,hu,_⟩:=hc i x j v hx hv;simp[hu]
 . intro i x j v hx hv;obtain⟨u,hu,hs⟩:=hc i x j v hx hv;simp only[hu,AK];exact hs
section
variable {P:Program} {tab:aR} {cfg:gR}
end
end
section
universe u v
variable [Inhabited aD]
abbrev aE (a b:Int):Prop:=a=b
theorem au {b:Bool} {p q:Prop}:br b p q↔(b=true->p)/\(b=false->q):=by
 cases b<;>simp[br]
theorem bN {b:Bool} {p q:Prop} (h:b=true->p) (k:b=false->q):br b p q:=au.2 ⟨h,k⟩
theorem aq {b:Bool} {p:Prop}:ck b p↔b=true/\p:=by
 cases b<;>simp[ck]
theorem aJ {α:Type u} {x:Option α} {k:α->Prop}:so x k↔∃a,x=some a/\k a:=by
 cases x<;>simp[so]
theorem qa (n:Int):nn n=decide (0<=n):=by
 rw[Bh]
 cases n with
 |ofNat a=>simp only[nn,Ah,true_iff];exact Int.natCast_nonneg a
 |negSucc a=>simp only[nn,Ah,Ai,false_iff];omega
theorem nr (n:Int):bY .i64 n=true↔ -9223372036854775808<=n/\n<=9223372036854775807:=by
 simp only[bY,vh,ve,gT,Ab,Ah];constructor<;>rintro⟨h1,h2⟩<;>constructor<;>(try simp only[Ak]at*)<;>omega
def cP {C:aP} (cfg:C.Y->gR) (n:Nat) (f:FuncId):Prop:=∀y:C.Y,C.pre y->ask (cfg y) n f (C.args y) (oK (cfg y) (C.res y))
theorem cZ {P:Program} {tab:aR} {C:aP} {cfg:C.Y->gR} (pr:fg P tab) (htab:∀y,(cfg y).tab=tab) (hcon:∀y g C',(cfg y).fS g=some C'->bO P tab g C') {n:Nat} {f:FuncId} (h:cP cfg n f):bO P tab f C:=by
 refine bO.of fun fn body hfn hb y hy C0 a avs hρ H hlen hav=>?_
 have h1:=h y hy;unfold ask at h1;rw[htab y,hfn]at h1;simp only[hb]at h1;refine(Pb pr (htab y) (hcon y) n f fn body (C.args y) ⟨0,[]⟩ a C0 avs _ hfn hb h1 H ⟨hlen,fun i s v hs hv=> .pure (hav i s v hs hv)⟩).mono ?_;rintro v a' ⟨sv,s',C',k1,k2,k3,k4⟩;exact⟨sv,s',C',fun C1 a1 av H1 hv1=>Ns (htab y) k1 H1 hv1,k2,k3,k4⟩
theorem cW {P:Program} {tab:aR} {fS:FuncId->Option aP} {k:FuncId} {c:aP} (hc:bO P tab k c) (h:∀g C,fS g=some C->bO P tab g C):∀g C,(bif Nat.beq g k then some c else fS g)=some C->bO P tab g C:=by
 intro g C hg
 cases hb:Nat.beq g k
 . rw[hb]at hg;exact h g C hg
 . rw[hb]at hg
   cases hg;rw[Ad hb];exact hc
theorem wI {P:Program} {tab:aR}:∀g C,(none:Option aP)=some C->bO P tab g C:=fun _ _ h=>by cases h
end
section
universe u v
variable [Inhabited aD]
inductive Rd (w:World) (p:Nat->Prop) (arg:Bool):SV->Value->Prop
 |bool (b:Bool):Rd w p arg (.bool b) (.bool b)
 |int (k:IntKind) (n:Int):Rd w p arg (.int k n) (.int k n)
 |str (s:List UInt8):Rd w p arg (.str s) (.string ⟨s.toArray⟩)
 |aQ:Rd w p arg .aQ (.pointer none)
 |wp (a:Addr):Rd w p arg (.wp a) (.pointer (some a))
 |nils:Rd w p arg .nils (.slice none 0 0)
 |bg:Rd w p arg .bg (.map none)
 |bA:Rd w p arg .bA .nilFunc
 |any (v:Value):Rd w p arg .any v
 |fn {f:FuncId} {xs ys:List SV} (h:arg=true) (v:Value):Rd w p arg (.fn f xs ys) v
 |bT {cs:List SV} {off:Nat} (h:arg=true) (v:Value):Rd w p arg (.bT cs off) v
 |gX {X:Type} {L:List X} {enc:X->List SV} (h0:L.length=0):Rd w p arg (.aw X L enc) (.slice none 0 0)
 |bL {X:Type} {L:List X} {enc:X->List SV} (h:arg=true) (h0:L.length=0) (a:Option Addr) (c:Nat):Rd w p arg (.aw X L enc) (.slice a 0 c)
 |aw {X:Type} {L:List X} {enc:X->List SV} (b off cap:Nat) (arr:Array Value) (e:TypeId) (fz:Nat×Nat) (sz:Nat) (u:Nat->Nat->Value)
  (hp:p b) (hb:w.heap[b]? =some (.cells arr e fz)) (hs:0<sz) (hl:off+L.length*sz<=arr.size) (hn:∀(i:Nat) x,L[i]? =some x->(enc x).length=sz) (hc:L.length<=cap)
  (h1:∀(i:Nat) x (j:Nat) v,L[i]? =some x->(enc x)[j]? =some v->arr[off+i*sz+j]? =some (u i j)) (h2:∀(i:Nat) x (j:Nat) v,L[i]? =some x->(enc x)[j]? =some v->Rd w p arg v (u i j)):Rd w p arg (.aw X L enc) (.slice (some ⟨b,off,none⟩) L.length cap)
 |agg {cs:List SV} {vs:Array Value} (h1:cs.length=vs.size) (h2:∀(i:Nat) c v,cs[i]? =some c->vs[i]? =some v->Rd w p arg c v):Rd w p arg (.agg cs) (.agg vs)
 |bB {cs:List SV} {vs:Array Value} (h1:cs.length=vs.size) (h2:∀(i:Nat) c v,cs[i]? =some c->vs[i]? =some v->Rd w p arg c v):Rd w p arg (.bB cs) (.tuple vs)
def yh (w:World) (p:Nat->Prop) (arg:Bool) (l:List SV) (m:List Value):Prop:=l.length=m.length/\ ∀(i:Nat) s v,l[i]? =some s->m[i]? =some v->Rd w p arg s v
theorem zn {E:Env} {a:AH} {K:KS} {w:World} (H:bm E a K w) {Fz:Nat->Option AO} (hf:∀i o,Fz i=some o->a.get i=some o) {p:Nat->Prop} (hp:∀i o,Fz i=some o->p (E.aN i)) {s:SV} {v:AV} (h:aF Fz s v):Rd w p true s (ae E v):=by
 induction h with
 |bool b=>exact .bool b
 |int k n=>exact .int k n
 |str s=>exact .str s
 |aQ=>exact .aQ
 |wp a=>exact .wp a
 |nils=>exact .nils
 |bg=>exact .bg
 |bA=>exact .bA
 |any v=>exact .any _
 |bL h0 hv=>
  rcases hv with rfl|⟨b,off,l,n,k,rfl⟩|⟨a,c,rfl⟩
  . exact .gX h0
  . exact .bL rfl h0 _ _
  . exact .bL rfl h0 _ _
 | @aw X L enc b off cap cs e sz ext bk u hb hs hl hn hc h1 h2 ih=>
  obtain⟨sz0,ext0,hb,hx0⟩:=hb;have hpb:=hp _ _ hb;obtain⟨arr,fz,hw,⟨rest,hr⟩,hsz⟩:∃arr fz,w.heap[E.aN b]? =some (.cells arr e fz)/\(∃rest,arr.toList=aU E cs++rest)/\(if ext0 then arr.size=E.cap b*sz0 else arr.size=cs.length):=by
    obtain⟨c,k1,arr,fz,rfl,k2,k3,_⟩:=H.obj _ _ (hf _ _ hb);exact⟨arr,fz,k1,k2,k3⟩
  have hle:cs.length<=arr.size:=by
    have:=Aq List.length hr;simp at this;omega
  simp only[ae];refine .aw _ off _ arr e fz sz (fun i j=>ae E (u i j)) hpb hw hs (by omega) hn ?_ ?_ ih
  . cases cap with
    |lit m=>exact hc
    |tail k=>
     obtain⟨g1,g2⟩:=hc;obtain⟨g3,g4⟩:=hx0 g1;rw[g4,if_pos rfl,g3]at hsz;rw[g2]at hl;have h5:(k+L.length)*sz<=E.cap b*sz:=by rw[Bp];omega
     have:=Nat.le_of_mul_le_mul_right h5 hs;show L.length<=E.cap b - k
     omega
  . intro i x j v hx hv;have h3:=h1 i x j v hx hv;rw[<-AW,hr];have hlt:off+i*sz+j<(aU E cs).length:=by
     simp;exact(Ac.1 h3).1
    rw[AL hlt,jm,h3];rfl
 |bT b base ca e sz ext bk u hb hl h1 _ ih=>exact .bT rfl _
 |fn h1 h2 _ _ ih3 ih4=>exact .fn rfl _
 | @agg cs vs h1 _ ih=>
  simp only[ae];refine .agg (by simpa using h1) (fun i c v hc hv=>?_);simp only[AS,jm]at hv;obtain⟨u,hu,rfl⟩:=Ap.1 hv;exact ih i c u hc hu
 | @bB cs vs h1 _ ih=>
  simp only[ae];refine .bB (by simpa using h1) (fun i c v hc hv=>?_);simp only[AS,jm]at hv;obtain⟨u,hu,rfl⟩:=Ap.1 hv;exact ih i c u hc hu
theorem tn {E:Env} {a:AH} {K:KS} {w:World} (H:bm E a K w) {Fz:Nat->Option AO} (hf:∀i o,Fz i=some o->a.get i=some o) {s:SV} {v:AV} (h:aF Fz s v):Rd w (fun _=>True) true s (ae E v):=zn H hf (fun _ _ _=>trivial) h
def eT (n m lo:Nat):Value->AV
 | .bool b=> .bool b
 | .int k z=> .int k z
 | .string s=> .str s.data.toList
 | .pointer none=> .aQ
 | .slice none 0 0=> .nils
 | .slice (some ⟨b,off,none⟩) (len+1) cap=>if n<=b/\b<m then .sl (lo+(b - n)) off (len+1) (.lit cap)else .raw (.slice (some ⟨b,off,none⟩) (len+1) cap)
 | .map none=> .bg
 | .nilFunc=> .bA
 |v=> .raw v
theorem zC {n m lo:Nat} {E:Env} (hE:∀b,n<=b->b<m->E.aN (lo+(b - n))=b) (v:Value):ae E (eT n m lo v)=v:=by
 unfold eT;split<;>try (simp[ae];done)
 split
 . rename_i b off len cap hb;simp[ae,hE _ hb.1 hb.2,fb.val]
 . simp[ae]
theorem Ji {n m lo:Nat} {E:Env} (hE:∀b,n<=b->b<m->E.aN (lo+(b - n))=b) (l:List Value):aU E (l.map (eT n m lo))=l:=by
 induction l with
 |nil=>rfl
 |cons v l ih=>simp[zC hE,ih]
def SV.atom:SV->Bool
 | .agg _=>false
 | .bB _=>false
 |_=>true
inductive Up (w:World) (n:Nat):SV->Value->Prop
 |bool (b:Bool):Up w n (.bool b) (.bool b)
 |int (k:IntKind) (z:Int):Up w n (.int k z) (.int k z)
 |str (s:List UInt8):Up w n (.str s) (.string ⟨s.toArray⟩)
 |aQ:Up w n .aQ (.pointer none)
 |nils:Up w n .nils (.slice none 0 0)
 |bg:Up w n .bg (.map none)
 |bA:Up w n .bA .nilFunc
 |any (v:Value):Up w n .any v
 |gX {X:Type} {L:List X} {enc:X->List SV} (h0:L.length=0):Up w n (.aw X L enc) (.slice none 0 0)
 |bL {X:Type} {L:List X} {enc:X->List SV} (h0:L.length=0) (a:Option Addr) (c:Nat):Up w n (.aw X L enc) (.slice a 0 c)
 |aw {X:Type} {L:List X} {enc:X->List SV} (b off cap:Nat) (arr:Array Value) (e:TypeId) (fz:Nat×Nat) (sz:Nat) (u:Nat->Nat->Value)
  (hp:n<=b) (hb:w.heap[b]? =some (.cells arr e fz)) (hs:0<sz) (hl:off+L.length*sz<=arr.size) (hn:∀(i:Nat) x,L[i]? =some x->(enc x).length=sz) (hc:L.length<=cap)
  (ha:∀(i:Nat) x (j:Nat) v,L[i]? =some x->(enc x)[j]? =some v->v.atom=true)
  (h1:∀(i:Nat) x (j:Nat) v,L[i]? =some x->(enc x)[j]? =some v->arr[off+i*sz+j]? =some (u i j)) (h2:∀(i:Nat) x (j:Nat) v,L[i]? =some x->(enc x)[j]? =some v->Up w n v (u i j)):Up w n (.aw X L enc) (.slice (some ⟨b,off,none⟩) L.length cap)
 |agg {cs:List SV} {vs:Array Value} (h1:cs.length=vs.size) (h2:∀(i:Nat) c v,cs[i]? =some c->vs[i]? =some v->Up w n c v):Up w n (.agg cs) (.agg vs)
 |bB {cs:List SV} {vs:Array Value} (h1:cs.length=vs.size) (h2:∀(i:Nat) c v,cs[i]? =some c->vs[i]? =some v->Up w n c v):Up w n (.bB cs) (.tuple vs)
def gM (a:AH) (n:Nat) (w:World):AH:=ofFn (a.next+(w.heap.size - n)) fun i=>if i<a.next then a.get i else
 match w.heap[n+(i - a.next)]? with
 |some (.cells arr e _)=>some (.cells (arr.toList.map (eT n w.heap.size a.next)) e 1 false .cold)
 |_=>none
theorem mB {a:AH} {n:Nat} {w:World} {i:Nat} (hi:i<a.next):(gM a n w).get i=a.get i:=by
 unfold gM;rw[oh,if_pos (by omega),if_pos hi]
theorem Fy {a:AH} {n:Nat} {w:World} {i:Nat} {o:AO} (hi:a.next<=i) (h:(gM a n w).get i=some o):
   ∃arr e fz,w.heap[n+(i - a.next)]? =some (.cells arr e fz)/\o= .cells (arr.toList.map (eT n w.heap.size a.next)) e 1 false .cold:=by
 unfold gM at h;rw[oh]at h;split at h
 . rw[if_neg (by omega)]at h;split at h
   . rename_i arr e fz hb
     cases h;exact⟨arr,e,fz,hb,rfl⟩
   . cases h
 . cases h
theorem MT {a:AH} {n:Nat} {w:World} {b:Nat} {arr:Array Value} {e:TypeId} {fz:Nat×Nat} (hb:n<=b) (h:w.heap[b]? =some (.cells arr e fz)):
  (gM a n w).get (a.next+(b - n))=some (.cells (arr.toList.map (eT n w.heap.size a.next)) e 1 false .cold):=by
 have hlt:=(Aa.1 h).1;unfold gM;rw[oh,if_pos (by omega),if_neg (by omega),show n+(a.next+(b - n) - a.next)=b from by omega,h]
theorem Ca {n m lo:Nat} {Fz:Nat->Option AO} {X:Type} {L:List X} {enc:X->List SV} (h0:L.length=0) (p:Option Addr) (c:Nat):aF Fz (.aw X L enc) (eT n m lo (.slice p 0 c)):=by
 have:eT n m lo (.slice p 0 c)= .nils\/eT n m lo (.slice p 0 c)= .raw (.slice p 0 c):=by
   unfold eT;split<;>simp_all
 rcases this with h|h
 . rw[h];exact .bL h0 (.inl rfl)
 . rw[h];exact .bL h0 (.inr (.inr ⟨_,_,rfl⟩))
theorem Of {a:AH} {n:Nat} {w:World} {Fz:Nat->Option AO} (hF:∀i o,a.next<=i->(gM a n w).get i=some o->Fz i=some o) {s:SV} {v:Value} (h:Up w n s v):
  (s.atom=true->aF Fz s (eT n w.heap.size a.next v))/\ ∃av,aF Fz s av/\ ∀E:Env,(∀b,n<=b->b<w.heap.size->E.aN (a.next+(b - n))=b)->ae E av=v:=by
 have key:∀{s:SV} {v:Value},aF Fz s (eT n w.heap.size a.next v)->(s.atom=true->aF Fz s (eT n w.heap.size a.next v))/\ ∃av,aF Fz s av/\ ∀E:Env,(∀b,n<=b->b<w.heap.size->E.aN (a.next+(b - n))=b)->ae E av=v:=
  fun{s v} h=>⟨fun _=>h,_,h,fun E hE=>zC hE v⟩
 induction h with
 |bool b=>exact key (.bool b)
 |int k z=>exact key (.int k z)
 |str s=>exact key (by simp only[eT];exact .str s)
 |aQ=>exact key .aQ
 |nils=>exact key .nils
 |bg=>exact key .bg
 |bA=>exact key .bA
 |any v=>exact key (.any _)
 |gX h0=>exact key (.bL h0 (.inl rfl))
 |bL h0 p c=>exact key (Ca h0 p c)
 | @aw X L enc b off cap arr e fz sz u hp hb hs hl hn hc ha h1 h2 ih=>
  apply key;have hlt:=(Aa.1 hb).1;by_cases hL:L.length=0
  . rw[hL];exact Ca hL _ _
  obtain⟨len,hlen⟩:∃k,L.length=k+1:=⟨L.length - 1,by omega⟩;rw[hlen];simp only[eT];rw[if_pos ⟨hp,hlt⟩,<-hlen];refine .aw _ off (.lit cap) _ e sz false .cold (fun i j=>eT n w.heap.size a.next (u i j)) ⟨1,false,hF _ _ (by omega) (MT hp hb),fun h=>by cases h⟩ hs (by simpa using hl) hn hc ?_ ?_
  . intro i x j v hx hv;have h3:=h1 i x j v hx hv;rw[Av,AW,h3];rfl
  . intro i x j v hx hv;exact(ih i x j v hx hv).1 (ha i x j v hx hv)
 | @agg cs vs h1 h2 ih=>
  refine⟨fun h=>(by cases h),?_⟩;have hc:∀i:Nat,∃av,∀c v,cs[i]? =some c->vs[i]? =some v->aF Fz c av/\ ∀E:Env,(∀b,n<=b->b<w.heap.size->E.aN (a.next+(b - n))=b)->ae E av=v:=by
    intro i
    cases hi:cs[i]? with
    |none=>exact⟨.aQ,fun c v h=>by cases h⟩
    | some c=>
      cases hj:vs[i]? with
      |none=>exact⟨.aQ,fun c v _ h=>by cases h⟩
      |some v=>
       obtain⟨_,av,g1,g2⟩:=ih i c v hi hj;exact⟨av,fun c' v' e1 e2=>by cases e1;cases e2;exact⟨g1,g2⟩⟩
  obtain⟨f,hf⟩:=EU hc;refine⟨.agg ((List.range vs.size).map f), .agg (by simp[h1]) fun i c v hi hv=>?_,fun E hE=>?_⟩
  . have hi2:i<vs.size:=by rw[<-h1];exact(Ac.1 hi).1
    rw[Av,DV hi2]at hv
    cases hv;exact(hf i c _ hi (A6 hi2)).1
  . simp only[ae,Value.agg.injEq];apply Df
    intro i;rw[AS,jm,Av];by_cases hi:i<vs.size
    . have hi2:i<cs.length:=by omega
      rw[DV hi,A6 hi];simp only[A2];rw[(hf i _ _ (Ae hi2) (A6 hi)).2 E hE]
    . rw[DG (by omega),Ba (by simp;omega)];rfl
 | @bB cs vs h1 h2 ih=>
  refine⟨fun h=>(by cases h),?_⟩;have hc:∀i:Nat,∃av,∀c v,cs[i]? =some c->vs[i]? =some v->aF Fz c av/\ ∀E:Env,(∀b,n<=b->b<w.heap.size->E.aN (a.next+(b - n))=b)->ae E av=v:=by
    intro i
    cases hi:cs[i]? with
    |none=>exact⟨.aQ,fun c v h=>by cases h⟩
    | some c=>
      cases hj:vs[i]? with
      |none=>exact⟨.aQ,fun c v _ h=>by cases h⟩
      |some v=>
       obtain⟨_,av,g1,g2⟩:=ih i c v hi hj;exact⟨av,fun c' v' e1 e2=>by cases e1;cases e2;exact⟨g1,g2⟩⟩
  obtain⟨f,hf⟩:=EU hc;refine⟨.bB ((List.range vs.size).map f), .bB (by simp[h1]) fun i c v hi hv=>?_,fun E hE=>?_⟩
  . have hi2:i<vs.size:=by rw[<-h1];exact(Ac.1 hi).1
    rw[Av,DV hi2]at hv
    cases hv;exact(hf i c _ hi (A6 hi2)).1
  . simp only[ae,Value.tuple.injEq];apply Df
    intro i;rw[AS,jm,Av];by_cases hi:i<vs.size
    . have hi2:i<cs.length:=by omega
      rw[DV hi,A6 hi];simp only[A2];rw[(hf i _ _ (Ae hi2) (A6 hi)).2 E hE]
    . rw[DG (by omega),Ba (by simp;omega)];rfl
theorem KL {P:Program} {f:FuncId} {k:CallKind} {l m:List Value} (hl:l.length=m.length) (h:Frame.enter P f l.toArray k=Frame.enter P f m.toArray k):l=m:=by
 have h:=Aq (fun fr=>fr.tmps.toList.take l.length) h;simp only[Frame.enter]at h;simpa [hl]using h
section
variable {P:Program} {tab:aR}
theorem j8 (ok:bC P tab) {f:FuncId} {C:aP} (h:∀y,C.pre y->∀(w:World) (args:List Value),cA w->yh w (fun _=>True) true (C.args y) args->
     Calls P f args.toArray w (fun e w'=>∃v,e= .returned v/\((∃i:Nat,(C.args y)[i]? =some (C.res y)/\args[i]? =some v)\/Up w' w.heap.size (C.res y) v)/\Below w.heap.size w w'/\((default:aD).dr->w.drawn<=w'.drawn))):bO P tab f C:=by
 classical
 intro fn body hfn hb y hy Fz a avs hfz hwf hlen hav;intro D E K base frC csC w hR hB;have hP:=ok.fns f fn hfn;obtain⟨q1,q2,q3⟩:=hR.all E (ai.refl _ _);have hconst:∀E',ai D E E'->aU E' avs=aU E avs:=by
   intro E' he;obtain⟨_,p2,_⟩:=hR.all E' he;simp only at p2 q2;rw[<-lO hP hb]at p2 q2;exact KL (by simp) (p2.trans q2.symm)
 have hargs:yh w (fun _=>True) true (C.args y) (aU E avs):=by
   refine⟨by simpa using hlen,fun i s v hs hv=>?_⟩;rw[jm]at hv;obtain⟨av,hav',rfl⟩:=Ap.1 hv;exact tn q1 hfz (hav i s av hs hav')
 have hbc:base=csC:=q3;subst hbc;obtain⟨e,w',fr',⟨v,rfl,hv,hbel,hdr⟩,s1,s2,s3⟩:=h y hy w _ (fun b hb=>(hB b hb).2) hargs base;have hR0:frC=Frame.enter P f (aU E avs).toArray .normal:=by
   simp only at q2;rw[<-q2,lO hP hb]
 let n:=w.heap.size
 let h':=gM a n w'
 let Fz':Nat->Option AO:=fun i=>if i<a.next then Fz i else h'.get i
 let E':Env:=⟨fun i=>if i<a.next then E.aN i else n+(i - a.next),E.cap⟩
 let D':Nat->Prop:=fun i=>D i\/(a.next<=i/\i<a.next+(w'.heap.size - n))
 have hdom:∀i,D i->i<a.next:=hR.dE;have hsz:n<=w'.heap.size:=hbel.size;have hag:∀E'',ai D' E' E''->ai D E E'':=by
   intro E'' he i hi;have h1:=he i (.inl hi);simp only[E',if_pos (hdom i hi)]at h1;exact h1
 have hblk:∀E'',ai D' E' E''->∀i,a.next<=i->i<a.next+(w'.heap.size - n)->E''.aN i=n+(i - a.next):=by
   intro E'' he i h1 h2;have h3:=(he i (.inr ⟨h1,h2⟩)).1;simp only[E',if_neg (show ¬i<a.next by omega)]at h3;exact h3
 have hblk2:∀E'',ai D' E' E''->∀b,n<=b->b<w'.heap.size->E''.aN (a.next+(b - n))=b:=by
   intro E'' he b h1 h2;rw[hblk E'' he _ (by omega) (by omega)];omega
 have hnext:h'.next=a.next+(w'.heap.size - n):=rfl;have hdom':∀i o,h'.get i=some o->i<h'.next:=by
   intro i o hi;have hi:(gM a n w').get i=some o:=hi;unfold gM at hi;rw[oh]at hi;split at hi
   . rename_i hlt;exact hlt
   . cases hi
 have hH:∀E'',ai D' E' E''->bm E'' h' K w':=by
   intro E'' he;obtain⟨g1,_,_⟩:=hR.all E'' (hag E'' he);simp only at g1;refine⟨fun i o hi=>?_,fun i o hi hr=>?_,fun i j oi oj hi hj hr hij=>?_,hdom',fun b hb'=>AJ (g1.kb b hb') hsz,fun i o hi hr=>?_,g1.k0⟩
   . by_cases hlt:i<a.next
     . rw[show h'.get i=a.get i from mB hlt]at hi;obtain⟨c,h1,h2⟩:=g1.obj i o hi;exact⟨c,by rw[hbel.block _ (Aa.1 h1).1];exact h1,h2⟩
     . obtain⟨arr,e,fz,hb2,rfl⟩:=Fy (by omega) hi;have hlt2:=hdom' i _ hi;refine⟨_,by rw[hblk E'' he i (by omega) (by omega)];exact hb2,arr,fz,rfl,⟨[],by simp[Ji (hblk2 E'' he)]⟩,by simp,trivial⟩
   . by_cases hlt:i<a.next
     . rw[show h'.get i=a.get i from mB hlt]at hi;exact g1.nk i o hi hr
     . have hlt2:=hdom' i _ hi;rw[hblk E'' he i (by omega) (by omega)];intro hk;have:=g1.kb _ hk;omega
   . have hin:∀k ok',h'.get k=some ok'->(k<a.next/\E''.aN k<n)\/(a.next<=k/\E''.aN k=n+(k - a.next)):=by
       intro k ok' hk;by_cases hlt:k<a.next
       . rw[show h'.get k=a.get k from mB hlt]at hk;obtain⟨c,h1,h2⟩:=g1.obj k ok' hk;exact .inl ⟨hlt,(Aa.1 h1).1⟩
       . have:=hdom' k _ hk;exact .inr ⟨by omega,hblk E'' he k (by omega) (by omega)⟩
     rcases hin i oi hi with⟨h1,h2⟩|⟨h1,h2⟩<;>rcases hin j oj hj with⟨h3,h4⟩|⟨h3,h4⟩
     . rw[show h'.get i=a.get i from mB h1]at hi;rw[show h'.get j=a.get j from mB h3]at hj;exact g1.inj i j oi oj hi hj hr hij
     all_goals omega
   . by_cases hlt:i<a.next
     . rw[show h'.get i=a.get i from mB hlt]at hi;exact g1.im i o hi hr
     . obtain⟨arr,e,fz,hb2,rfl⟩:=Fy (by omega) hi;exact hr.elim
 have hval:∃av,aF Fz' (C.res y) av/\ ∀E'',ai D' E' E''->ae E'' av=v:=by
   rcases hv with⟨i,hi,hvi⟩|hv
   . rw[jm]at hvi;obtain⟨av,hav',rfl⟩:=Ap.1 hvi;refine⟨av,(hav i _ av hi hav').mono fun j o hj=>?_,fun E'' he=>?_⟩
     . have:j<a.next:=hwf j o (hfz j o hj);simp only[Fz',if_pos this];exact hj
     . have h1:=Aq (fun l=>l[i]?) (hconst E'' (hag E'' he));simp only[jm,hav',A2,AI]at h1;exact h1
   . obtain⟨_,av,g1,g2⟩:=Of (a:=a) (n:=n) (w:=w') (Fz:=Fz') (fun i o hi ho=>by simp only[Fz',if_neg (show ¬i<a.next by omega)];exact ho) hv;exact⟨av,g1,fun E'' he=>g2 E'' (hblk2 E'' he)⟩
 obtain⟨av,hsim,hconc⟩:=hval;refine⟨av,h',⟨Fz',fun i o hi=>?_,fun i o hi=>?_,hsim,⟨by rw[hnext];exact Nat.le_add_right _ _,fun i o hi=>?_⟩,fun i o hi=>?_,hdom',fun i o hi=>?_⟩,fr',w',v,E',D',?_,s2,s3,fun E'' he=>⟨hH E'' he,hconc E'' he⟩,?_,fun i hi=> .inl hi,fun i hi=>?_,⟨hbel.os,hbel.tape,hbel.output,hbel.size,fun b hb'=>hbel.block b (q1.kb b hb'),hdr⟩,?_,fun i hi=>?_⟩
 . have:i<a.next:=hwf i o (hfz i o hi);simp only[Fz',if_pos this];exact hi
 . by_cases hlt:i<a.next
   . simp only[Fz',if_pos hlt]at hi;rw[show h'.get i=a.get i from mB hlt];exact hfz i o hi
   . simp only[Fz',if_neg hlt]at hi;exact hi
 . by_cases hlt:i<a.next
   . rw[show h'.get i=a.get i from mB hlt]at hi;exact .inl ⟨o,hi⟩
   . exact .inr (by omega)
 . rw[show h'.get i=a.get i from mB (hwf i o hi)];exact hi
 . by_cases hlt:i<a.next
   . simp only[Fz',if_pos hlt]at hi;exact .inl hi
   . exact .inr (by omega)
 . rw[hR0];exact s1
 . intro i hi;exact⟨if_pos (hdom i hi),rfl⟩
 . rcases hi with hi|⟨_,hi⟩
   . have:=hdom i hi;rw[hnext];omega
   . exact hi
 . show a.next<=h'.next
   rw[hnext];exact Nat.le_add_right _ _
 . rcases hi with hi|⟨hi,_⟩
   . exact .inl hi
   . exact .inr hi
theorem pg (ok:bC P tab) {f:FuncId} {C:aP} (hc:bO P tab f C) {fn:Func} {body:Code} (hfn:tab.fns.get f=some fn) (hb:fn.body=some body) {y:C.Y} (hy:C.pre y) {args:List Value} {w:World}
  (hs:PL (bK tab w).get (C.args y) (args.map (dm w.heap.size))) (hw:cA w):Calls P f args.toArray w (fun e w'=>∃v,e= .returned v/\Rd w' (fun _=>True) true (C.res y) v/\Below w.heap.size w w'/\((default:aD).dr->w.drawn<=w'.drawn)):=by
 intro cs;have hP:=ok.fns f fn hfn;have hdom:∀i o,(bK tab w).get i=some o->i<(bK tab w).next:=fun i o hi=>(ow tab w (E:=⟨fun i=>i,fun _=>0⟩) (fun _ _=>rfl)).dE i o hi
 let E:Env:=⟨fun i=>i,fun _=>0⟩
 let D:Nat->Prop:=fun i=>i<w.heap.size
 have hag:∀E',ai D E E'->∀i,i<w.heap.size->E'.aN i=i:=fun E' he i hi=>(he i hi).1
 have hR:Rel D E (KS.old w.heap.size) {fr:=ag.enter fn f body (args.map (dm w.heap.size)) .normal,cs:=[],h:=bK tab w} cs (Frame.enter P f args.toArray .normal) cs w:=by
  refine⟨fun E' he=>⟨ow tab w (hag E' he),?_,rfl⟩,fun i h=>h,pK _ _ _ _ _,fun f hf=>by cases hf⟩;rw[<-lO hP hb,vM (hag E' he)]
 obtain⟨v,h',⟨Fz',_,f2,hsim,_⟩,fr',w',v',E',D',s1,s2,s3,s4,s5,s6,s7,s8,s9,s10⟩:=hc fn body hfn hb y hy (bK tab w).get (bK tab w) _ (fun _ _ h=>h) hdom hs.1 hs.2 D E _ cs _ cs w hR hw.kG;obtain⟨g1,g2⟩:=s4 E' (ai.refl _ _);subst g2;exact⟨.returned (ae E' v),w',fr',⟨_,rfl,tn g1 f2 hsim,⟨s8.os,s8.tape,s8.output,s8.size,s8.block⟩,s8.drawn⟩,s1,s2,s3⟩
theorem Pv (ok:bC P tab) {f:FuncId} {C:aP} (hc:bO P tab f C) {fn:Func} {body:Code} (hfn:tab.fns.get f=some fn) (hb:fn.body=some body) {y:C.Y} (hy:C.pre y) {args:List Value} {w:World}
   (hs:PL (fun _=>none) (C.args y) (args.map (dm 0))) (hw:cA w):Calls P f args.toArray w (fun e w'=>∃v,e= .returned v/\Rd w' (fun b=>w.heap.size<=b) true (C.res y) v/\Below w.heap.size w w'/\((default:aD).dr->w.drawn<=w'.drawn)):=by
 intro cs;have hP:=ok.fns f fn hfn;let E:Env:=⟨fun i=>i,fun _=>0⟩
 let K:KS:=⟨fun b=>b<w.heap.size,0⟩
 have hR:Rel (fun _=>False) E K {fr:=ag.enter fn f body (args.map (dm 0)) .normal,cs:=[],h:=ef} cs (Frame.enter P f args.toArray .normal) cs w:=by
   refine⟨fun E' _=>⟨C5 E' K w (fun b h=>h) (fun b h=>absurd h (Bw _)),?_,rfl⟩,fun i h=>h.elim,pK _ _ _ _ _,fun f hf=>by cases hf⟩;rw[<-lO hP hb,vM (fun i hi=>absurd hi (Bw _))]
 obtain⟨v,h',⟨Fz',_,f2,hsim,_,_,_,f3⟩,fr',w',v',E',D',s1,s2,s3,s4,s5,s6,s7,s8,s9,s10⟩:=hc fn body hfn hb y hy (fun _=>none) ef _ (fun _ _ h=>by cases h) (fun _ _ h=>by cases h) hs.1 hs.2 _ E K cs _ cs w hR (fun b hb=>⟨hw.lt hb,hw b hb⟩);obtain⟨g1,g2⟩:=s4 E' (ai.refl _ _);subst g2;refine⟨.returned (ae E' v),w',fr',⟨_,rfl,zn g1 f2 (fun i o hi=>?_) hsim,⟨s8.os,s8.tape,s8.output,s8.size,s8.block⟩,s8.drawn⟩,s1,s2,s3⟩;have ho:=f2 i o hi;by_cases hro:o.ro
 . exact absurd (g1.im i o ho hro) (Bw _)
 . exact ED.1 (g1.nk i o ho hro)
end
end
section
universe u v
variable [Inhabited aD]
section
variable {P:Program} {tab:aR}
end
end
section
universe u v
def fr0 (f:FuncId):Frame:={(default:Frame)with fn:=f,kind:= .normal}
def eE (P:Program) (f:FuncId) (l:List Item) (a:Act) (w:World) (R:Ending->World->Prop):Prop:=
 ∀cs,∃e w' fr,R e w'/\Comes P (lone ((fr0 f).at a l) cs w) (lone fr cs w') e/\fr.fn=f/\fr.leaving P w' e
theorem yN {P:Program} {f:FuncId} {fn:Func} {c:Code} {args:Array Value} {w:World} {R:Ending->World->Prop} (hf:P.funcs[f]? =some fn) (hb:fn.body=some c)
  (h:eE P f [.code c] {tmps:=args++Array.replicate (fn.ntmps - args.size) undef,defers:=[]} w R):Calls P f args w R:=by
 intro cs;have henter:Frame.enter P f args .normal=(fr0 f).at {tmps:=args++Array.replicate (fn.ntmps - args.size) undef,defers:=[]} [.code c]:=by
  simp[Frame.enter,Frame.at,hf,hb,fr0]
 rw[henter];exact h cs
theorem eE.steps {P:Program} {f:FuncId} {l l':List Item} {a a':Act} {w w':World} {R:Ending->World->Prop} (hs:∀cs,Steps P (lone ((fr0 f).at a l) cs w) (lone ((fr0 f).at a' l') cs w')) (h:eE P f l' a' w' R):eE P f l a w R:=by
 intro cs;obtain⟨e,w2,fr,h1,h2,h3⟩:=h cs;exact⟨e,w2,fr,h1,Comes.of_steps (hs cs) h2,h3⟩
def wU (P:Program) (f:FuncId) (fn:Func) (l:List Item) (R:Ending->World->Prop):Exit->Act->World->Prop
 | .normal,a,w=>eE P f l a w R
 | .ret,a,w=>a.defers=[]/\ ∃v,(results fn a.tmps).run P w= .ok v w/\R (.returned v) w
 |_,_,_=>False
theorem eE.code {P:Program} {f:FuncId} {fn:Func} {c:Code} {l:List Item} {a:Act} {w:World} {R:Ending->World->Prop} (hf:P.funcs[f]? =some fn) (h:c.wp P (wU P f fn l R) a w):eE P f (.code c::l) a w R:=by
 intro cs;obtain⟨e,a',w',hq,harr⟩:=h (fr0 f) l cs
 cases e with
 |normal=>
  obtain⟨e,w2,fr,h1,h2,h3⟩:=hq cs;exact⟨e,w2,fr,h1,Comes.of_steps harr h2,h3⟩
 |ret=>
  obtain⟨hd,v,hr,hR⟩:=hq;obtain⟨todo,hs⟩:=harr;exact⟨.returned v,w',_,hR,hs,rfl,rfl,hd,rfl,fn,hf,hr⟩
 |panic chain=>exact hq.elim
 |exit id=>exact hq.elim
 |goto l=>exact hq.elim
 |outgrown=>exact hq.elim
theorem eE.seq {P:Program} {f:FuncId} {x y:Code} {l:List Item} {a:Act} {w:World} {R:Ending->World->Prop} (h:eE P f (.code x:: .code y::l) a w R):eE P f (.code (.seq x y)::l) a w R:=
 h.steps fun _=> .one step_seq
theorem eE.nil {P:Program} {f:FuncId} {fn:Func} {a:Act} {w:World} {R:Ending->World->Prop} (hf:P.funcs[f]? =some fn) (hd:a.defers=[]) {v:Value} (hr:(results fn a.tmps).run P w= .ok v w) (hR:R (.returned v) w):eE P f [] a w R:=
 fun cs=>⟨.returned v,w,_,hR, .one step_end,rfl,rfl,hd,rfl,fn,hf,hr⟩
theorem eE.next {P:Program} {f:FuncId} {fn:Func} {x y:Code} {l:List Item} {a:Act} {w:World} {R:Ending->World->Prop} (hf:P.funcs[f]? =some fn) (h:x.wp P (wU P f fn (.code y::l) R) a w):eE P f (.code (.seq x y)::l) a w R:=
 .seq (.code hf h)
variable [Inhabited aD]
section
variable {P:Program} {tab:aR} {cfg:gR}
def dS (tab:aR) (w:World) (tmps:Array Value) (ts:Fr):Prop:=∃avs:List AV,avs.length=tmps.size/\(∀E:Env,(∀i,i<w.heap.size->E.aN i=i)->aU E avs=tmps.toList)/\ ∀t s,look ts t=some s->∃av,avs[t]? =some av/\aA ⟨fun _=>none,(bK tab w).get⟩ s av
theorem dS.nil {w:World} {tmps:Array Value}:dS tab w tmps []:=⟨tmps.toList.map (dm w.heap.size),by simp,fun E hE=>vM hE _,fun t s h=>by cases h⟩
theorem dS.put {w:World} {tmps:Array Value} {ts:Fr} {t:Nat} {s:SV} {v:Value} {av:AV} (h1:tmps[t]? =some v) (hc:∀E:Env,(∀i,i<w.heap.size->E.aN i=i)->ae E av=v) (h2:aF (bK tab w).get s av) (h:dS tab w tmps ts):dS tab w tmps ((t,s)::ts):=by
 obtain⟨avs,k0,k1,k2⟩:=h;have ht:t<avs.length:=by rw[k0];exact(Aa.1 h1).1
 refine⟨avs.set t av,by simpa using k0,fun E hE=>?_,fun t' s' hl=>?_⟩
 . apply BO
   intro j;have k:=Aq (fun l=>l[j]?) (k1 E hE);simp only[jm]at k⊢;rw[D7];by_cases e:t=j
   . subst e;rw[if_pos rfl,if_pos ht,AW,h1];simp[hc E hE]
   . rw[if_neg e];exact k
 . rw[iZ]at hl;rw[D7];by_cases e:t'=t
   . subst e;rw[if_pos rfl]at hl
     cases hl;exact⟨av,by rw[if_pos rfl,if_pos ht], .pure h2⟩
   . rw[if_neg e]at hl;obtain⟨av',h3,h4⟩:=k2 t' s' hl;exact⟨av',by rw[if_neg (fun h=>e h.symm)];exact h3,h4⟩
theorem dS.cons {w:World} {tmps:Array Value} {ts:Fr} {t:Nat} {s:SV} {v:Value} (h1:tmps[t]? =some v) (h2:aF (bK tab w).get s (dm w.heap.size v)) (h:dS tab w tmps ts):dS tab w tmps ((t,s)::ts):=
 h.put h1 (fun E hE=>wi hE v) h2
theorem QK (pr:fg P tab) (htab:cfg.tab=tab) (hcon:∀g C,cfg.fS g=some C->bO P tab g C) {n:Nat} {f:FuncId} {c:Code} {a:Act} {w:World} {Q:SV->St->Prop} {Θ:Value->Prop} {ts:Fr} (hd:a.defers=[])
  (h:wp cfg n ⟨f,a.tmps.size,0,[.code c],⟨ts,⟨0,[]⟩,[]⟩⟩ Q) (hs:dS tab w a.tmps ts) (hQ:∀sv s,Q sv s->∀C av E,aA C sv av->Θ (ae E av)) (hw:cA w):
  eE P f [.code c] a w (fun e w'=>(∃v,Θ v/\e= .returned v)/\Below w.heap.size w w'):=by
 obtain⟨avs,a0,a1,a2⟩:=hs;intro cs;let E:Env:=⟨fun i=>i,fun _=>0⟩
 let D:Nat->Prop:=fun i=>i<w.heap.size
 let fr:ag:={fn:=f,nt:=a.tmps.size,tmps:=T.ofList avs,todo:=[.code c],defers:=[],mode:= .run,kind:= .normal,round:=none}
 have hdom:∀i o,(bK tab w).get i=some o->i<(bK tab w).next:=fun i o hi=>(ow tab w (E:=E) (fun _ _=>rfl)).dE i o hi
 have hgo:dM P {fr,cs:=[],h:=bK tab w} _:=(FV pr htab hcon (fun _ hrec=>Cp htab hrec hcon) n).2 f a.tmps.size 0 [.code c] ⟨ts,⟨0,[]⟩,[]⟩ Q ⟨fun _=>none,(bK tab w).get⟩ ⟨0,[]⟩ (bK tab w) (fun p I hp=>by cases hp) (fun p o hp=>by simp[SH.get,look]at hp)
  fr (bK tab w) h ⟨rfl,rfl,rfl,rfl,rfl,rfl⟩ (.code c .nil) ⟨⟨fun _=>none,(bK tab w).get⟩,fun t s hl=>by
    obtain⟨v,h1,h2⟩:=a2 t s hl;show aA _ s (((T.ofList avs).get t).getD (.bB []))
    rw[j7,h1];exact h2,⟨fun p o hp=>(by simp[SH.get,look]at hp),fun p q o o' I J hp=>(by simp[SH.get,look]at hp),fun i o hi=>hi,fun p o I hp=>(by simp[SH.get,look]at hp),fun p I hp=>(by cases hp),hdom⟩,Tr.refl _,Grow.refl _,cr.same _ _ _ _⟩
 have hag:∀E',ai D E E'->∀i,i<w.heap.size->E'.aN i=i:=fun E' he i hi=>(he i hi).1
 have hconc:∀E',ai D E E'->aX E' fr=(fr0 f).at a [.code c]:=by
  intro E' he;have k1:=a1 E' (hag E' he);obtain⟨tm,df⟩:=a
  cases hd;unfold aX Frame.at fr0;simp only[fr,AF,DZ,cY,eC,BQ];congr 1
  apply Df
  intro j;have k2:=Aq (fun l=>l[j]?) k1;simp only[jm,AW]at k2;rw[tmps_get?,j7,<-k2];by_cases hj:j<tm.size
  . rw[if_pos hj,Ae (by rw[a0];exact hj)];simp
  . rw[if_neg hj,Ba (by rw[a0];show tm.size<=j;omega)];rfl
 have hR:Rel D E (KS.old w.heap.size) {fr,cs:=[],h:=bK tab w} cs ((fr0 f).at a [.code c]) cs w:=by
  refine⟨fun E' he=>⟨ow tab w (hag E' he),hconc E' he,rfl⟩,fun i h=>h,fun t ht=>?_,fun f hf=>by cases hf⟩;show(T.ofList avs).get t=none
  have ht:a.tmps.size<=t:=ht;rw[j7,Ba (by rw[a0];exact ht)]
 obtain⟨v,h',⟨sv,s',C',hq,hsv,_⟩,fr',w',v',E',D',s1,s2,s3,s4,s5,s6,s7,s8,s9,s10⟩:=hgo D E _ cs _ cs w hR hw.kG;obtain⟨_,g2⟩:=s4 E' (ai.refl _ _);subst g2;exact⟨.returned (ae E' v),w',fr',⟨⟨_,hQ sv s' hq C' v E' hsv,rfl⟩,s8.os,s8.tape,s8.output,s8.size,s8.block⟩,s1,s2,s3⟩
theorem Hq (pr:fg P tab) (htab:cfg.tab=tab) (hcon:∀g C,cfg.fS g=some C->bO P tab g C) {n:Nat} {f:FuncId} {c:Code} {a:Act} {w:World} {ts:Fr} (hd:a.defers=[])
  (h:wp cfg n ⟨f,a.tmps.size,0,[.code c],⟨ts,⟨0,[]⟩,[]⟩⟩ sx) (hs:dS tab w a.tmps ts) (hw:cA w):
  eE P f [.code c] a w (fun e w'=>e= .returned (.bool true)/\Below w.heap.size w w'):=by
 have:=QK (Θ:=fun v=>v= .bool true) pr htab hcon hd h hs (fun sv s hq C av E hsv=>by
  unfold sx at hq;split at hq
  . rw[hq]at hsv;rw[kS hsv];rfl
  . exact hq.elim) hw
 intro cs;obtain⟨e,w',fr,⟨⟨v,rfl,he⟩,hb⟩,h2⟩:=this cs;exact⟨e,w',fr,⟨he,hb⟩,h2⟩
end
end
end Go.Sy
namespace Go.Proofs
open Go Go.Am Go.RowKit Go.Sy
abbrev Bs:=List UInt8
def nB (b:UInt8):Int:=Int.ofNat b.toNat
def bD (s:Bs):List SV:=[.str s]
def cf (s:Bs) (c:Int):Option Nat:=s.findIdx? (fun b=>nB b==c)
def ij (s:Bs) (c:Int):Int:=match cf s c with|some i=>(i:Int)|none=> -1
def cN (s:Bs) (c:Int):Bs×Bs×Bool:=match cf s c with|some i=>(s.take i,s.drop (i+1),true)|none=>(s,[],false)
def bq:Bs->Int->List Bs
 |[],_=>[[]]
 |b::s,c=>if nB b=c then[]::bq s c else match bq s c with
  |h::t=>(b::h)::t
  |[]=>[[b]]
def eP (b:UInt8):Bool:=decide (48<=nB b)&&decide (nB b<=57)
def ey (s:Bs):Nat:=(s.takeWhile eP).length
def dJ (n:Int) (b:UInt8):Int:=min (n*10+(nB b - 48)) 1099511627776
def cj (s:Bs):Bool:=match s with|b::_=>nB b==45|[]=>false
def az (s:Bs):Bs:=if cj s then s.drop 1 else s
def cC (s:Bs):Int×Bool:=if az s=[]\/ey (az s)<(az s).length then(0,false)else((if cj s then -1 else 1)*(az s).foldl dJ 0,true)
def qc (b:UInt8):Bool:=(decide (97<=nB b)&&decide (nB b<=122))||(decide (48<=nB b)&&decide (nB b<=57))||nB b==45||nB b==95
def fq (c:Int) (e:Bool):Bool:=if c=45 then !e else(decide (97<=c)&&decide (c<=122))||(decide (48<=c)&&decide (c<=57))||c==95
def fF (s:Bs):Bool:=s !=[]&&decide (s.length<=63)&&s.all qc&&s.head? !=some 45&&s.getLast? !=some 45
def jd (p:Bs):Bool:=p !=[]&&decide (ey p=p.length)&&decide ((cC p).1<=255)&& !(decide (1<p.length)&&p.head? ==some 48)
def gO (s:Bs):Bool:=decide ((bq s 46).length=4)&&(bq s 46).all jd
def ed (b:UInt8):Bool:=(decide (48<=nB b)&&decide (nB b<=57))||(decide (97<=nB b)&&decide (nB b<=102))||nB b==58||nB b==46
def fC (s:Bs):Bool:=decide (4<=s.length)&&decide (s.length<=47)&&s.head? ==some 91&&s.getLast? ==some 93&&((s.drop 1).take (s.length - 2)).all ed
def jc (s:Bs):Bool:=gO s||fC s
def fO (s:Bs):Bool:=decide (s.length<=256)&& !gO s&&(bq s 46).all fF
theorem xD {a b:UInt8} (h:nB a=nB b):a=b:=by
 unfold nB at h;exact Ee.1 (Int.ofNat.inj h)
theorem eR {s:Bs} {c:Int} {i:Nat}:cf s c=some i↔∃h:i<s.length,nB s[i]=c/\ ∀j (hj:j<i),nB (s[j]'(by omega))≠c:=by
 unfold cf;rw[Es];constructor
 . rintro⟨h,h1,h2⟩;exact⟨h,by simpa using h1,fun j hj=>by simpa using h2 j hj⟩
 . rintro⟨h,h1,h2⟩;exact⟨h,by simpa using h1,fun j hj=>by simpa using h2 j hj⟩
theorem jR {s:Bs} {c:Int}:cf s c=none↔∀j (hj:j<s.length),nB s[j]≠c:=by
 unfold cf;rw[List.findIdx?_eq_none_iff];constructor
 . intro h j hj;simpa using h s[j] (Bb hj)
 . intro h x hx;obtain⟨j,hj,rfl⟩:=BP hx;simpa using h j hj
theorem K8 (s:Bs) (c:Int):bq s c≠[]:=by
 cases s with
 |nil=>simp[bq]
 |cons b s=>
  simp only[bq];split
  . simp
  . split<;>simp
theorem y8 (s:Bs) (c:Int):bq s c=match cf s c with|some i=>s.take i::bq (s.drop (i+1)) c|none=>[s]:=by
 induction s with
 |nil=>simp[bq,cf]
 |cons b s ih=>
  by_cases hb:nB b=c
  . simp[bq,cf,List.findIdx?_cons,hb]
  . have h2:cf (b::s) c=(cf s c).map (· +1):=by simp[cf,List.findIdx?_cons,hb]
    simp only[bq,if_neg hb,h2];rw[ih]
    cases hp:cf s c with
    |none=>simp
    |some i=>simp
theorem zw (s:Bs) (c:Int):(bq s c).length<=s.length+1:=by
 induction s with
 |nil=>simp[bq]
 |cons b s ih=>
  simp only[bq];split
  . simp;omega
  . split
    . rename_i h t he;rw[he]at ih;simp at ih⊢;omega
    . simp
theorem I8 (s:Bs) (c:Int):∀p∈bq s c,p.length<=s.length:=by
 induction s with
 |nil=>simp[bq]
 |cons b s ih=>
  intro p hp;simp only[bq]at hp;split at hp
  . rcases Ag.1 hp with rfl|hp
    . simp
    . have:=ih p hp;simp;omega
  . split at hp
    . rename_i h t he;rw[he]at ih;rcases Ag.1 hp with rfl|hp
      . have:=ih h An;simp;omega
      . have:=ih p (Al _ hp);simp;omega
    . simp at hp;subst hp;simp
theorem wJ (s:Bs):ey s<=s.length:=(DJ _).length_le
theorem zF {s:Bs} (h:¬ey s<s.length):∀b∈s,eP b=true:=by
 have h1:ey s=s.length:=Nat.le_antisymm (wJ s) (DO h);unfold ey at h1;have h2:s.takeWhile eP=s:=List.IsPrefix.eq_of_length (DJ _) h1;intro b hb;rw[<-h2]at hb;exact AA.1 (List.all_takeWhile ..) b hb
theorem KJ {s:Bs} {j:Nat} (hj:j<ey s):∃h:j<s.length,eP s[j]=true:=by
 induction s generalizing j with
 |nil=>simp[ey]at hj
 |cons b s ih=>
  by_cases hb:eP b=true
  . have hd:ey (b::s)=ey s+1:=by simp[ey,Bk,hb]
    cases j with
    |zero=>exact⟨by simp,by simpa using hb⟩
    |succ j=>
     obtain⟨h1,h2⟩:=ih (j:=j) (by omega);exact⟨by simpa using h1,by simpa using h2⟩
  . have hd:ey (b::s)=0:=by simp[ey,Bk,hb]
    omega
theorem Co {s:Bs} (h:ey s<s.length):eP (s[ey s])=false:=by
 induction s with
 |nil=>simp at h
 |cons b s ih=>
  by_cases hb:eP b=true
  . have hd:ey (b::s)=ey s+1:=by simp[ey,Bk,hb]
    simp only[hd,EZ];exact ih (by rw[hd]at h;simpa using h)
  . have hd:ey (b::s)=0:=by simp[ey,Bk,hb]
    simp only[hd,EY];exact AY.2 hb
theorem zM (b:UInt8):eP b=true↔48<=nB b/\nB b<=57:=by simp[eP]
theorem Ja {n:Int} {b:UInt8} (hn:0<=n) (hb:eP b=true):0<=dJ n b/\dJ n b<=1099511627776:=by
 rw[zM]at hb;unfold dJ;omega
theorem IF (s:Bs) (h:∀b∈s,eP b=true):∀n:Int,0<=n->n<=1099511627776->0<=s.foldl dJ n/\s.foldl dJ n<=1099511627776:=by
 induction s with
 |nil=>intro n h1 h2;exact⟨h1,h2⟩
 |cons b s ih=>
  intro n h1 h2;have:=Ja h1 (h b An);exact ih (fun c hc=>h c (Al _ hc)) _ this.1 this.2
section
variable [Inhabited aD]
noncomputable def QP:TypeId->Option View:=fun t=>bif Nat.beq t Ty.string then some ⟨Bs,bD⟩else none
noncomputable def dv (fS:FuncId->Option aP) (lI:FuncId->Nat->Option aS):gR:={tab:=oL,view:=QP,fS,lI}
def eD {Y:Type}:Y->FuncId->Nat->Option aS:=fun _ _ _=>none
def dX (f r:Nat) (A:aS):FuncId->Nat->Option aS:=fun g s=>bif Nat.beq g f&&Nat.beq s r then some A else none
def i64 (n:Int):SV:= .int .i64 n
def strs (l:List Bs):SV:= .aw Bs l bD
def xJ:aP:={Y:=Bs×Int,pre:=fun y=>y.1.length<=1000000,args:=fun y=>[.str y.1, .int .u8 y.2],res:=fun y=>i64 (ij y.1 y.2)}
def uK (y:Bs×Int):aS:={α:=Nat,ok:=fun i=>i<=y.1.length/\ ∀j (h:j<y.1.length),j<i->nB y.1[j]≠y.2,μ:=fun i=>y.1.length - i,bG:=[],bM:=fun i=>[(0, .str y.1),(1, .int .u8 y.2),(5,i64 (-1)),(8,i64 (Int.ofNat y.1.length)),(9,i64 i)],cK:=fun _=>[]}
def nK:aP:={Y:=Bs×Int,pre:=fun y=>y.1.length<=1000000,args:=fun y=>[.str y.1, .int .u8 y.2],res:=fun y=> .bB [.str (cN y.1 y.2).1, .str (cN y.1 y.2).2.1, .bool (cN y.1 y.2).2.2]}
def xx:aP:={Y:=Bs×Int,pre:=fun y=>y.1.length<=100000,args:=fun y=>[.str y.1, .int .u8 y.2],res:=fun y=>strs (bq y.1 y.2)}
def ue (y:Bs×Int):aS:={α:=Bs×List Bs,ok:=fun x=>bq y.1 y.2=x.2++bq x.1 y.2/\x.2.length+x.1.length<=y.1.length,μ:=fun x=>x.1.length,bG:=[],bM:=fun x=>[(0, .str x.1),(1, .int .u8 y.2),(5, .own 0)],cK:=fun x=>[(0, .arr Bs x.2 bD Ty.string)]}
def nL:aP:={Y:=UInt8,pre:=fun _=>True,args:=fun y=>[.int .u8 (nB y)],res:=fun y=> .bool (eP y)}
def x8:aP:={Y:=Bs,pre:=fun y=>y.length<=1000000,args:=fun y=>[.str y],res:=fun y=>i64 (ey y)}
def uJ (y:Bs):aS:={α:=Nat,ok:=fun i=>i<=ey y,μ:=fun i=>y.length - i,bG:=[],bM:=fun i=>[(0, .str y),(3,i64 i)],cK:=fun _=>[]}
def nM:aP:={Y:=Bs,pre:=fun y=>y.length<=1000000,args:=fun y=>[.str y],res:=fun y=> .bB [i64 (cC y).1, .bool (cC y).2]}
def gJ (y:Bs):aS:={α:=Nat,ok:=fun i=>i<=(az y).length/\ ∀b∈az y,eP b=true,μ:=fun i=>(az y).length - i,bG:=[],bM:=fun i=>[(4, .str (az y)),(5,i64 (if cj y then -1 else 1)),(6,i64 (((az y).take i).foldl dJ 0)),(28,i64 (Int.ofNat (az y).length)),(29,i64 i)],cK:=fun _=>[]}
noncomputable def uO (f:FuncId):Option aP:=bif Nat.beq f lv then some xJ else none
noncomputable def uP (f:FuncId):Option aP:=bif Nat.beq f ph then some nK else uO f
noncomputable def uQ (f:FuncId):Option aP:=bif Nat.beq f lu then some xx else bif Nat.beq f oZ then some nL else uP f
noncomputable def uR (f:FuncId):Option aP:=bif Nat.beq f ll then some x8 else uQ f
noncomputable def GM (f:FuncId):Option aP:=bif Nat.beq f ln then some nM else uR f
noncomputable def cQ (_:FuncId):Option aP:=none
end
section
variable [Inhabited aD]
theorem Ol:(cP (fun(y:aP.Y xJ)=>dv cQ (dX lv 3 (uK y))) 400 lv)=(∀(y:Bs×Int),
 y.1.length<=1000000->
 (∃(x:Nat),
 (x<=y.1.length/\ ∀(j:Nat) (h:j<y.1.length),j<x->aE (nB y.1[j]) y.2->False)/\
 (y.1=y.1/\
 aE y.2 y.2/\
 aE (-1) (-1)/\aE (Int.ofNat y.1.length) (Int.ofNat y.1.length)/\aE 0 ↑x/\True)/\
 True/\True)/\
 ∀(x:Nat),
 (x<=y.1.length/\ ∀(j:Nat) (h:j<y.1.length),j<x->aE (nB y.1[j]) y.2->False)->
 br (cH (↑x) (Int.ofNat y.1.length))
 (so y.1[Int.toNat ↑x]? fun(val:UInt8)=>
 br (Int.ofNat (UInt8.toNat val)==y.2) (aE (↑x) (ij y.1 y.2)/\True)
 (ck (bY .i64 (↑x+1))
 (∃(y_1:Nat),
 (y_1<=y.1.length/\ ∀(j:Nat) (h:j<y.1.length),j<y_1->aE (nB y.1[j]) y.2->False)/\
 aS.μ (uK y) y_1<aS.μ (uK y) x/\
 (y.1=y.1/\
 aE y.2 y.2/\
 aE (-1) (-1)/\aE (Int.ofNat y.1.length) (Int.ofNat y.1.length)/\aE (↑x+1) ↑y_1/\True)/\
 True/\True)))
 (aE (-1) (ij y.1 y.2)/\True)):=by kernel_rfl
theorem O8:(cP (fun(y:aP.Y nK)=>dv uO (eD y)) 400 ph)=(∀(y:Bs×Int),
 y.1.length<=1000000->
 ∃(y_1:Bs×Int),
 y.1=y_1.1/\
 aE y.2 y_1.2/\
 y_1.1.length<=1000000/\
 br (cH (ij y_1.1 y_1.2) 0)
 (y.1=Prod.fst (cN y.1 y.2)/\
 Array.toList (ByteArray.data {data:=#[]})=Prod.fst (Prod.snd (cN y.1 y.2))/\
 false=Prod.snd (Prod.snd (cN y.1 y.2))/\True)
 (ck (nn (ij y_1.1 y_1.2))
 (ck (Nat.ble (Int.toNat (ij y_1.1 y_1.2)) y.1.length)
 (ck (bY .i64 (ij y_1.1 y_1.2+1))
 (ck (nn (ij y_1.1 y_1.2+1))
 (ck (Nat.ble (Int.toNat (ij y_1.1 y_1.2+1)) y.1.length)
 (List.take (Int.toNat (ij y_1.1 y_1.2)) y.1=Prod.fst (cN y.1 y.2)/\
 List.drop (Int.toNat (ij y_1.1 y_1.2+1)) y.1=Prod.fst (Prod.snd (cN y.1 y.2))/\
 true=Prod.snd (Prod.snd (cN y.1 y.2))/\True))))))):=by kernel_rfl
theorem NG:(cP (fun(y:aP.Y xx)=>dv uP (dX lu 2 (ue y))) 400 lu)=(∀(y:Bs×Int),
 y.1.length<=100000->
 (∃(x:Bs×List Bs),
 (bq y.1 y.2=x.2++bq x.1 y.2/\
 x.2.length+x.1.length<=y.1.length)/\
 (y.1=x.1/\aE y.2 y.2/\True/\True)/\
 ((x.2=[]/\ ∀(x:Bs),List.length (bD x)=1)/\True)/\True)/\
 ∀(x:Bs×List Bs),
 bq y.1 y.2=x.2++bq x.1 y.2/\
 x.2.length+x.1.length<=y.1.length->
 ∃(y_1:Bs×Int),
 x.1=y_1.1/\
 aE y.2 y_1.2/\
 y_1.1.length<=1000000/\
 ∃(x_1:Bs),
 [SV.str x_1]=[SV.str (Prod.fst (cN y_1.1 y_1.2))]/\
 ck (Nat.ble ((x.2.length+List.length [x_1])*16) 16777216&&Nat.ble (x.2.length+List.length [x_1]) 16777216)
 (br (!Prod.snd (Prod.snd (cN y_1.1 y_1.2)))
 (SV.aw Bs (x.2++[x_1]) bD=SV.aw Bs (bq y.1 y.2) bD/\
 True)
 (∃(y_2:Bs×List Bs),
 (bq y.1 y.2=y_2.2++bq y_2.1 y.2/\
 y_2.2.length+y_2.1.length<=y.1.length)/\
 aS.μ (ue y) y_2<aS.μ (ue y) x/\
 (Prod.fst (Prod.snd (cN y_1.1 y_1.2))=y_2.1/\aE y.2 y.2/\True/\True)/\
 (SV.aw Bs (x.2++[x_1]) bD=SV.aw Bs y_2.2 bD/\True)/\True))):=by kernel_rfl
theorem O9:(cP (fun(y:aP.Y nL)=>dv cQ (eD y)) 400 oZ)=(∀(y:UInt8),True->br (bZ 48 (nB y)) (bZ (nB y) 57=eP y/\True) (false=eP y/\True)):=by kernel_rfl
theorem Oj:(cP (fun(y:aP.Y x8)=>dv uQ (dX ll 2 (uJ y))) 400 ll)=(∀(y:List UInt8),
 y.length<=1000000->
 (∃(x:Nat),x<=ey y/\(y=y/\aE 0 ↑x/\True)/\True/\True)/\
 ∀(x:Nat),
 x<=ey y->
 br (cH (↑x) (Int.ofNat y.length))
 (so y[Int.toNat ↑x]? fun(val:UInt8)=>
 ∃(y_1:UInt8),
 aE (Int.ofNat (UInt8.toNat val)) (nB y_1)/\
 True/\
 br (eP y_1)
 (ck (bY .i64 (↑x+1))
 (∃(y_2:Nat),
 y_2<=ey y/\
 aS.μ (uJ y) y_2<aS.μ (uJ y) x/\(y=y/\aE (↑x+1) ↑y_2/\True)/\True/\True))
 (aE ↑x ↑(ey y)/\True))
 (aE ↑x ↑(ey y)/\True)):=by kernel_rfl
theorem Pa:(cP (fun(y:aP.Y nM)=>dv uR (dX ln 8 (gJ y))) 400 ln)=(∀(y:List UInt8),
 y.length<=1000000->
 br (!y==Array.toList (ByteArray.data {data:=#[]}))
 (so y[Int.toNat 0]? fun(val:UInt8)=>
 br (Int.ofNat (UInt8.toNat val)==45)
 (ck (Nat.ble (Int.toNat 1) y.length)
 (br (List.drop (Int.toNat 1) y==Array.toList (ByteArray.data {data:=#[]}))
 (aE 0 (Prod.fst (cC y))/\false=Prod.snd (cC y)/\True)
 (∃(y_1:List UInt8),
 List.drop (Int.toNat 1) y=y_1/\
 y_1.length<=1000000/\
 br (cH (↑(ey y_1)) (Int.ofNat (List.length (List.drop (Int.toNat 1) y))))
 (aE 0 (Prod.fst (cC y))/\false=Prod.snd (cC y)/\True)
 ((∃(x:Nat),
 (x<=List.length (az y)/\ ∀(b:UInt8),b∈az y->eP b=true)/\
 (List.drop (Int.toNat 1) y=az y/\
 aE (-1) (if cj y=true then -1 else 1)/\
 aE 0 (List.foldl dJ 0 (List.take x (az y)))/\
 aE (Int.ofNat (List.length (List.drop (Int.toNat 1) y))) (Int.ofNat (List.length (az y)))/\aE 0 ↑x/\True)/\
 True/\True)/\
 ∀(x:Nat),
 (x<=List.length (az y)/\ ∀(b:UInt8),b∈az y->eP b=true)->
 br (cH (↑x) (Int.ofNat (List.length (az y))))
 (ck (bY .i64 (List.foldl dJ 0 (List.take x (az y))*10))
 (so (az y)[Int.toNat ↑x]? fun(val:UInt8)=>
 ck
 (bY .i64
 (List.foldl dJ 0 (List.take x (az y))*10+
 Go.IntKind.wrap .i64 (Go.IntKind.wrap Go.IntKind.u8 (Int.ofNat (UInt8.toNat val) - 48))))
 (ck (bY .i64 (↑x+1))
 (∃(y_2:Nat),
 (y_2<=List.length (az y)/\ ∀(b:UInt8),b∈az y->eP b=true)/\
 aS.μ (gJ y) y_2<aS.μ (gJ y) x/\
 (az y=az y/\
 aE (if cj y=true then -1 else 1) (if cj y=true then -1 else 1)/\
 aE
 (if
 1099511627776<
 List.foldl dJ 0 (List.take x (az y))*10+
 Go.IntKind.wrap .i64 (Go.IntKind.wrap Go.IntKind.u8 (Int.ofNat (UInt8.toNat val) - 48))then
 1099511627776
 else
 List.foldl dJ 0 (List.take x (az y))*10+
 Go.IntKind.wrap .i64 (Go.IntKind.wrap Go.IntKind.u8 (Int.ofNat (UInt8.toNat val) - 48)))
 (List.foldl dJ 0 (List.take y_2 (az y)))/\
 aE (Int.ofNat (List.length (az y))) (Int.ofNat (List.length (az y)))/\
 aE (↑x+1) ↑y_2/\True)/\
 True/\True))))
 (ck
 (bY .i64 ((if cj y=true then -1 else 1)*List.foldl dJ 0 (List.take x (az y))))
 (aE ((if cj y=true then -1 else 1)*List.foldl dJ 0 (List.take x (az y)))
 (Prod.fst (cC y))/\
 true=Prod.snd (cC y)/\True))))))
 (br (y==Array.toList (ByteArray.data {data:=#[]})) (aE 0 (Prod.fst (cC y))/\false=Prod.snd (cC y)/\True)
 (∃(y_1:List UInt8),
 y=y_1/\
 y_1.length<=1000000/\
 br (cH (↑(ey y_1)) (Int.ofNat y.length))
 (aE 0 (Prod.fst (cC y))/\false=Prod.snd (cC y)/\True)
 ((∃(x:Nat),
 (x<=List.length (az y)/\ ∀(b:UInt8),b∈az y->eP b=true)/\
 (y=az y/\
 aE 1 (if cj y=true then -1 else 1)/\
 aE 0 (List.foldl dJ 0 (List.take x (az y)))/\
 aE (Int.ofNat y.length) (Int.ofNat (List.length (az y)))/\aE 0 ↑x/\True)/\
 True/\True)/\
 ∀(x:Nat),
 (x<=List.length (az y)/\ ∀(b:UInt8),b∈az y->eP b=true)->
 br (cH (↑x) (Int.ofNat (List.length (az y))))
 (ck (bY .i64 (List.foldl dJ 0 (List.take x (az y))*10))
 (so (az y)[Int.toNat ↑x]? fun(val:UInt8)=>
 ck
 (bY .i64
 (List.foldl dJ 0 (List.take x (az y))*10+
 Go.IntKind.wrap .i64 (Go.IntKind.wrap Go.IntKind.u8 (Int.ofNat (UInt8.toNat val) - 48))))
 (ck (bY .i64 (↑x+1))
 (∃(y_2:Nat),
 (y_2<=List.length (az y)/\ ∀(b:UInt8),b∈az y->eP b=true)/\
 aS.μ (gJ y) y_2<aS.μ (gJ y) x/\
 (az y=az y/\
 aE (if cj y=true then -1 else 1) (if cj y=true then -1 else 1)/\
 aE
 (if
 1099511627776<
 List.foldl dJ 0 (List.take x (az y))*10+
 Go.IntKind.wrap .i64 (Go.IntKind.wrap Go.IntKind.u8 (Int.ofNat (UInt8.toNat val) - 48))then
 1099511627776
 else
 List.foldl dJ 0 (List.take x (az y))*10+
 Go.IntKind.wrap .i64 (Go.IntKind.wrap Go.IntKind.u8 (Int.ofNat (UInt8.toNat val) - 48)))
 (List.foldl dJ 0 (List.take y_2 (az y)))/\
 aE (Int.ofNat (List.length (az y))) (Int.ofNat (List.length (az y)))/\
 aE (↑x+1) ↑y_2/\True)/\
 True/\True))))
 (ck (bY .i64 ((if cj y=true then -1 else 1)*List.foldl dJ 0 (List.take x (az y))))
 (aE ((if cj y=true then -1 else 1)*List.foldl dJ 0 (List.take x (az y)))
 (Prod.fst (cC y))/\
 true=Prod.snd (cC y)/\True))))))
 (br (y==Array.toList (ByteArray.data {data:=#[]})) (aE 0 (Prod.fst (cC y))/\false=Prod.snd (cC y)/\True)
 (∃(y_1:List UInt8),
 y=y_1/\
 y_1.length<=1000000/\
 br (cH (↑(ey y_1)) (Int.ofNat y.length))
 (aE 0 (Prod.fst (cC y))/\false=Prod.snd (cC y)/\True)
 ((∃(x:Nat),
 (x<=List.length (az y)/\ ∀(b:UInt8),b∈az y->eP b=true)/\
 (y=az y/\
 aE 1 (if cj y=true then -1 else 1)/\
 aE 0 (List.foldl dJ 0 (List.take x (az y)))/\
 aE (Int.ofNat y.length) (Int.ofNat (List.length (az y)))/\aE 0 ↑x/\True)/\
 True/\True)/\
 ∀(x:Nat),
 (x<=List.length (az y)/\ ∀(b:UInt8),b∈az y->eP b=true)->
 br (cH (↑x) (Int.ofNat (List.length (az y))))
 (ck (bY .i64 (List.foldl dJ 0 (List.take x (az y))*10))
 (so (az y)[Int.toNat ↑x]? fun(val:UInt8)=>
 ck
 (bY .i64
 (List.foldl dJ 0 (List.take x (az y))*10+
 Go.IntKind.wrap .i64 (Go.IntKind.wrap Go.IntKind.u8 (Int.ofNat (UInt8.toNat val) - 48))))
 (ck (bY .i64 (↑x+1))
 (∃(y_2:Nat),
 (y_2<=List.length (az y)/\ ∀(b:UInt8),b∈az y->eP b=true)/\
 aS.μ (gJ y) y_2<aS.μ (gJ y) x/\
 (az y=az y/\
 aE (if cj y=true then -1 else 1) (if cj y=true then -1 else 1)/\
 aE
 (if
 1099511627776<
 List.foldl dJ 0 (List.take x (az y))*10+
 Go.IntKind.wrap .i64 (Go.IntKind.wrap Go.IntKind.u8 (Int.ofNat (UInt8.toNat val) - 48))then
 1099511627776
 else
 List.foldl dJ 0 (List.take x (az y))*10+
 Go.IntKind.wrap .i64 (Go.IntKind.wrap Go.IntKind.u8 (Int.ofNat (UInt8.toNat val) - 48)))
 (List.foldl dJ 0 (List.take y_2 (az y)))/\
 aE (Int.ofNat (List.length (az y))) (Int.ofNat (List.length (az y)))/\
 aE (↑x+1) ↑y_2/\True)/\
 True/\True))))
 (ck (bY .i64 ((if cj y=true then -1 else 1)*List.foldl dJ 0 (List.take x (az y))))
 (aE ((if cj y=true then -1 else 1)*List.foldl dJ 0 (List.take x (az y)))
 (Prod.fst (cC y))/\
 true=Prod.snd (cC y)/\True)))))):=by kernel_rfl
end
section
variable [Inhabited aD]
abbrev CO (f:FuncId) (C:aP):Prop:=Go.Sy.bO  Tryz.prog Tryz.tab f C
theorem jS:∀g C,cQ g=some C->CO g C:=fun _ _ h=>by cases h
theorem eG (i:Nat) (h:i<1000000000):bY .i64 ((i:Int)+1)=true:=by rw[nr];omega
theorem Gs (b:UInt8):Int.ofNat b.toNat=nB b:=rfl
theorem Lx {s:Bs} {c:Int} {i:Nat} (h:i<s.length) (h1:nB s[i]=c) (h2:∀(j:Nat) (h:j<s.length),j<i->nB s[j]=c->False):ij s c=i:=by
 have:cf s c=some i:=eR.2 ⟨h,h1,fun j hj=>h2 j (by omega) hj⟩;unfold ij;rw[this]
theorem Ly {s:Bs} {c:Int} (h2:∀(j:Nat) (h:j<s.length),nB s[j]=c->False):ij s c= -1:=by
 have:cf s c=none:=jR.2 h2;unfold ij;rw[this]
theorem JB (s:Bs) (c:Int) (i:Nat) (hall:∀(j:Nat) (h:j<s.length),j<i->nB s[j]=c->False) (hi:i<=s.length) (h:¬(i:Int)<Int.ofNat s.length):ij s c= -1:=
 Ly fun j hj=>hall j hj (by simp only[Ak]at h;omega)
theorem Ox:CO lv xJ:=cZ (cfg:=fun y=>dv cQ (dX lv 3 (uK y))) ch (fun _=>rfl) (fun _=>jS) (n:=400) (by
 rw[Ol];rintro⟨s,c⟩ hpre;simp only at hpre;refine⟨⟨0,⟨by simp,fun j h hj=>by omega⟩,⟨rfl,rfl,rfl,rfl,rfl,trivial⟩,trivial,trivial⟩,?_⟩;rintro i ⟨hi,hall⟩;simp only[au,aJ,aq,dY,Ah,Ao,Eb]at hi hall⊢;refine⟨fun hlt=>?_,fun hge=>(JB s c i hall hi hge).symm⟩;have hlt':i<s.length:=by simp only[Ak]at hlt;omega
 refine⟨s[i],by simp[hlt'],fun h1=>(Lx hlt' (by simpa [nB]using h1) hall).symm,fun h1=>⟨eG i (by omega),i+1,⟨by omega,fun j h hj he=>?_⟩,?_,by simp[aE]⟩⟩
 . by_cases hji:j=i
   . subst hji;exact absurd he (by simpa [nB]using h1)
   . exact hall j h (by omega) he
 . show s.length - (i+1)<s.length - i
   omega)
theorem Cz:∀g C,uO g=some C->CO g C:=cW Ox wI
theorem Kn (s:Bs) (c:Int):(∃i,cf s c=some i/\ij s c=(i:Int)/\i<s.length)\/(cf s c=none/\ij s c= -1):=by
 unfold ij
 cases h:cf s c with
 |none=>exact .inr ⟨rfl,rfl⟩
 |some i=>
  obtain⟨h1,_⟩:=eR.1 h;exact .inl ⟨i,rfl,rfl,h1⟩
theorem PE:CO ph nK:=cZ (cfg:=fun y=>dv uO (eD y)) ch (fun _=>rfl) (fun _=>Cz) (n:=400) (by
 rw[O8];rintro⟨s,c⟩ hpre;refine⟨(s,c),rfl,rfl,hpre,?_⟩;simp only at hpre⊢;rcases Kn s c with⟨i,h1,h2,h3⟩|⟨h1,h2⟩
 . simp only[au,aq,h2,cN,h1,dY,qa,Ah,Ao];refine⟨fun h=>by omega,fun _=>⟨by omega,?_,?_,by omega,?_,?_⟩⟩
   . rw[AQ];simp;omega
   . exact eG i (by omega)
   . rw[AQ];omega
   . rw[show((i:Int)+1).toNat=i+1 by omega];simp
 . simp only[au,aq,h2,cN,h1,dY,qa,Ah,Ao];exact⟨fun _=>by simp,fun h=>absurd (by decide) h⟩)
theorem CA:∀g C,uP g=some C->CO g C:=cW PE Cz
theorem N9:CO lu xx:=cZ (cfg:=fun y=>dv uP (dX lu 2 (ue y))) ch (fun _=>rfl) (fun _=>CA) (n:=400) (by
 rw[NG];rintro⟨s,c⟩ hpre;simp only at hpre;refine⟨⟨(s,[]),⟨by simp,by simp⟩,⟨rfl,rfl,trivial,trivial⟩,⟨⟨rfl,fun _=>rfl⟩,trivial⟩,trivial⟩,?_⟩;rintro⟨t,l⟩ ⟨h1,h2⟩;simp only at h1 h2;refine⟨(t,c),rfl,rfl,by simp only;omega,(cN t c).1,rfl,?_⟩;simp only[au,aq];refine⟨by simp;omega,fun h=>⟨?_,trivial⟩,fun h=>⟨((cN t c).2.1,l++[(cN t c).1]),⟨?_,?_⟩,?_,by simp[aE]⟩⟩
 . have h3:=y8 t c
   cases hp:cf t c with
   |none=>rw[hp]at h3;simp only at h3;simp only[cN,hp];rw[h1,h3]
   |some i=>simp[cN,hp]at h
 . have h3:=y8 t c
   cases hp:cf t c with
   |none=>simp[cN,hp]at h
   |some i=>rw[hp]at h3;simp only at h3;simp only[cN,hp];rw[h1,h3];simp
 . cases hp:cf t c with
   |none=>simp[cN,hp]at h
   |some i=>
    obtain⟨h4,_⟩:=eR.1 hp;simp[cN,hp];omega
 . show(cN t c).2.1.length<t.length
   cases hp:cf t c with
   |none=>simp[cN,hp]at h
   |some i=>
    obtain⟨h4,_⟩:=eR.1 hp;simp[cN,hp];omega)
theorem PF:CO oZ nL:=cZ (cfg:=fun y=>dv cQ (eD y)) ch (fun _=>rfl) (fun _=>jS) (n:=400) (by
 rw[O9];intro y _;simp only[au,gT,eP,Eb];constructor<;>intro h<;>simp[h])
theorem CB:∀g C,uQ g=some C->CO g C:=cW N9 (cW PF CA)
theorem Ov:CO ll x8:=cZ (cfg:=fun y=>dv uQ (dX ll 2 (uJ y))) ch (fun _=>rfl) (fun _=>CB) (n:=400) (by
 rw[Oj];intro s hpre;refine⟨⟨0,by simp,⟨rfl,rfl,trivial⟩,trivial,trivial⟩,?_⟩;intro i hi;have hle:=wJ s;simp only[au,aJ,aq,dY,Ah,Ao,Eb];refine⟨fun hlt=>?_,fun hge=>?_⟩
 . have hlt':i<s.length:=by simp only[Ak]at hlt;omega
   refine⟨s[i],by simp[hlt'],s[i],rfl,trivial,fun h=>⟨eG i (by omega),i+1,?_,?_,by simp[aE]⟩,fun h=>?_⟩
   . apply BR;intro hn;have:ey s=i:=by omega
     have h2:=Co (s:=s) (by omega);simp only[this]at h2;rw[h]at h2
     cases h2
   . show s.length - (i+1)<s.length - i
     omega
   . apply BR;intro hn;have hlt2:i<ey s:=by simp only[aE]at hn;omega
     obtain⟨_,h2⟩:=KJ hlt2;rw[h2]at h
     cases h
 . simp only[Ak]at hge;simp only[aE];omega)
theorem Cd (n:Int) (h: -9223372036854775808<=n/\n<=9223372036854775807):Go.IntKind.wrap Go.IntKind.i64 n=n:=by rw[IntKind.wrap_i64];omega
theorem M8 {b:UInt8} (h:eP b=true):Go.IntKind.wrap Go.IntKind.i64 (Go.IntKind.wrap Go.IntKind.u8 (Int.ofNat (UInt8.toNat b) - 48))=nB b - 48/\Go.IntKind.wrap Go.IntKind.i64 (Int.ofNat (UInt8.toNat b))=nB b/\0<=nB b - 48/\nB b - 48<=9:=by
 rw[zM]at h;rw[Gs];have h1:Go.IntKind.wrap Go.IntKind.u8 (nB b - 48)=nB b - 48:=by simp only[IntKind.wrap,IntKind.signed,IntKind.bits,BZ,Ai,Az];omega
 rw[h1,Cd _ (by omega),Cd _ (by omega)];exact⟨rfl,rfl,by omega,by omega⟩
theorem Ko (s:Bs) (x:Nat) (h:x<s.length):(s.take (x+1)).foldl dJ 0=dJ ((s.take x).foldl dJ 0) s[x]:=by
 rw[AG h,Ew];rfl
theorem Kp (s:Bs) (h:∀b∈s,eP b=true) (x:Nat):0<=(s.take x).foldl dJ 0/\(s.take x).foldl dJ 0<=1099511627776:=
 IF _ (fun b hb=>h b (Eh hb)) 0 (by omega) (by omega)
theorem NP {y:Bs} (hne:az y≠[]) (hd:∀b∈az y,eP b=true):cC y=((if cj y then -1 else 1)*(az y).foldl dJ 0,true):=by
 have h1:¬ey (az y)<(az y).length:=by
  intro h;have h2:=Co h;rw[hd _ (Bb h)]at h2
  cases h2
 unfold cC;rw[if_neg (by rintro(h|h);exact hne h;exact h1 h)]
theorem xE {y:Bs} (h:az y=[]\/ey (az y)<(az y).length):cC y=(0,false):=by
 unfold cC;rw[if_pos h]
theorem FA (y t:Bs) (K:Int) (ht:t=az y) (hK:K=if cj y=true then -1 else 1) (hne:az y≠[]) (hd:∀b∈az y,eP b=true) (hl:(az y).length<=1000000):((∃(x:Nat),
      (x<=List.length (az y)/\ ∀(b:UInt8),b∈az y->eP b=Bool.true)/\
      (t=az y/\
      aE K (if cj y=Bool.true then -1 else 1)/\
      aE 0 (List.foldl dJ 0 (List.take x (az y)))/\
      aE (Int.ofNat (List.length t)) (Int.ofNat (List.length (az y)))/\aE 0 ↑x/\True)/\
      True/\True)/\
      ∀(x:Nat),
      (x<=List.length (az y)/\ ∀(b:UInt8),b∈az y->eP b=Bool.true)->
      br (cH (↑x) (Int.ofNat (List.length (az y))))
      (ck (bY Go.IntKind.i64 (List.foldl dJ 0 (List.take x (az y))*10))
      (so (az y)[Int.toNat ↑x]? fun(val:UInt8)=>
      ck
      (bY Go.IntKind.i64
      (List.foldl dJ 0 (List.take x (az y))*10+
      Go.IntKind.wrap Go.IntKind.i64 (Go.IntKind.wrap Go.IntKind.u8 (Int.ofNat (UInt8.toNat val) - 48))))
      (ck (bY Go.IntKind.i64 (↑x+1))
      (∃(y_2:Nat),
      (y_2<=List.length (az y)/\ ∀(b:UInt8),b∈az y->eP b=Bool.true)/\
      aS.μ (gJ y) y_2<aS.μ (gJ y) x/\
      (az y=az y/\
      aE (if cj y=Bool.true then -1 else 1) (if cj y=Bool.true then -1 else 1)/\
      aE
      (if
      1099511627776<
      List.foldl dJ 0 (List.take x (az y))*10+
      Go.IntKind.wrap Go.IntKind.i64 (Go.IntKind.wrap Go.IntKind.u8 (Int.ofNat (UInt8.toNat val) - 48))then
      1099511627776
      else
      List.foldl dJ 0 (List.take x (az y))*10+
      Go.IntKind.wrap Go.IntKind.i64 (Go.IntKind.wrap Go.IntKind.u8 (Int.ofNat (UInt8.toNat val) - 48)))
      (List.foldl dJ 0 (List.take y_2 (az y)))/\
      aE (Int.ofNat (List.length (az y))) (Int.ofNat (List.length (az y)))/\
      aE (↑x+1) ↑y_2/\True)/\
      True/\True))))
      (ck
      (bY Go.IntKind.i64 ((if cj y=Bool.true then -1 else 1)*List.foldl dJ 0 (List.take x (az y))))
      (aE ((if cj y=Bool.true then -1 else 1)*List.foldl dJ 0 (List.take x (az y)))
      (Prod.fst (cC y))/\
      Bool.true=Prod.snd (cC y)/\True))):=by
 refine⟨⟨0,⟨by simp,hd⟩,⟨ht,hK,by simp[aE],by rw[ht],by simp[aE],trivial⟩,trivial,trivial⟩,?_⟩;rintro x ⟨hx,_⟩;obtain⟨r1,r2⟩:=Kp _ hd x;simp only[au,aJ,aq,dY,Ah,Ao,Eb];refine⟨fun hlt=>?_,fun hge=>?_⟩
 . have hlt':x<(az y).length:=by simp only[Ak]at hlt;omega
   obtain⟨d1,_,d3,d4⟩:=M8 (hd _ (Bb hlt'));refine⟨by rw[nr];omega,(az y)[x],by simp[hlt'],?_,eG x (by omega),x+1,⟨by omega,hd⟩,?_,?_⟩
   . rw[d1,nr];omega
   . show(az y).length - (x+1)<(az y).length - x
     omega
   . refine⟨trivial,trivial,?_,trivial,by simp[aE]⟩;rw[Ko _ _ hlt',d1];simp only[dJ,aE];omega
 . have he:x=(az y).length:=by simp only[Ak]at hge;omega
   subst he;rw[Bz,NP hne hd]at*;refine⟨?_,by simp[aE]⟩;rw[nr];split<;>omega
theorem wA {y:Bs} (h:cj y=true):az y=y.drop 1:=by unfold az;rw[if_pos h]
theorem Cq {y:Bs} (h:cj y=false):az y=y:=by unfold az;rw[if_neg (by simp[h])]
theorem rl {b:UInt8} {y:Bs}:cj (b::y)=(Int.ofNat b.toNat==45):=rfl
theorem zl {y:Bs} (h:¬(↑(ey y):Int)<Int.ofNat y.length):∀b∈y,eP b=true:=zF (by simp only[Ak]at h;omega)
theorem CC:∀g C,uR g=some C->CO g C:=cW Ov CB
theorem O7:CO ln nM:=cZ (cfg:=fun y=>dv uR (dX ln 8 (gJ y))) ch (fun _=>rfl) (fun _=>CC) (n:=400) (by
 rw[Pa];intro y hpre
 cases y with
 |nil=>
  have hn:cC []=(0,false):=rfl;refine au.2 ⟨fun h=>by simp at h,fun _=>au.2 ⟨fun _=>by rw[hn];exact⟨rfl,rfl,trivial⟩,fun h=>by simp at h⟩⟩
 |cons b s=>
  refine au.2 ⟨fun _=>aJ.2 ⟨b,rfl,au.2 ⟨fun hb=>aq.2 ⟨by simp,au.2 ⟨fun h=>?_,fun h=>⟨s,rfl,by simp at hpre;omega,au.2 ⟨fun hd=>?_,fun hd=>?_⟩⟩⟩⟩,fun hb=>au.2 ⟨fun h=>by simp at h,fun _=>⟨b::s,rfl,hpre,au.2 ⟨fun hd=>?_,fun hd=>?_⟩⟩⟩⟩⟩,fun h=>by simp at h⟩
  . have hg:cj (b::s)=true:=by rw[rl];exact hb
    have he:az (b::s)=[]:=by rw[wA hg];simpa using h
    rw[xE (.inl he)];exact⟨rfl,rfl,trivial⟩
  . have hg:cj (b::s)=true:=by rw[rl];exact hb
    rw[dY,Ah]at hd;rw[xE (.inr (by rw[wA hg];simp only[Ak]at hd;simp at hd⊢;omega))];exact⟨rfl,rfl,trivial⟩
  . have hg:cj (b::s)=true:=by rw[rl];exact hb
    rw[dY,Ao]at hd;have ha:=wA hg;exact FA _ _ _ ha.symm (by rw[if_pos hg]) (by rw[ha];simpa using h) (by rw[ha];exact zl hd) (by rw[ha];simp at hpre⊢;omega)
  . have hg:cj (b::s)=false:=by rw[rl];exact hb
    rw[dY,Ah]at hd;rw[xE (.inr (by rw[Cq hg];simp only[Ak]at hd;omega))];exact⟨rfl,rfl,trivial⟩
  . have hg:cj (b::s)=false:=by rw[rl];exact hb
    rw[dY,Ao]at hd;have ha:=Cq hg;exact FA _ _ _ ha.symm (by rw[if_neg (by simp[hg])]) (by rw[ha];simp) (by rw[ha];exact zl hd) (by rw[ha];exact hpre))
theorem L3:∀g C,GM g=some C->CO g C:=cW O7 CC
end
section
variable [Inhabited aD]
def xw:aP:={Y:=UInt8×Bool,pre:=fun _=>True,args:=fun y=>[.int .u8 (nB y.1), .bool y.2],res:=fun y=> .bool (fq (nB y.1) y.2)}
def jg (p:Bs->Bool):aP:={Y:=Bs,pre:=fun y=>y.length<=100000,args:=fun y=>[.str y],res:=fun y=> .bool (p y)}
def nj (y:Bs):aS:={α:=Nat,ok:=fun i=>i<=y.length/\ ∀j (h:j<y.length),j<i->fq (nB y[j]) (j==0||j==y.length - 1)=true,μ:=fun i=>y.length - i,bG:=[],bM:=fun i=>[(0, .str y),(12,i64 (Int.ofNat y.length)),(13,i64 i)],cK:=fun _=>[]}
def nv (y:Bs):aS:={α:=Nat,ok:=fun i=>i<=(bq y 46).length/\ ∀j (h:j<(bq y 46).length),j<i->jd (bq y 46)[j]=true,μ:=fun i=>(bq y 46).length - i,bG:=[],bM:=fun i=>[(13,strs (bq y 46)),(14,i64 (Int.ofNat (bq y 46).length)),(15,i64 i)],cK:=fun _=>[]}
def fV (y:Bs):aS:=let l:=(y.drop 1).take (y.length - 2);{α:=Nat,ok:=fun i=>i<=l.length/\ ∀j (h:j<l.length),j<i->ed l[j]=true,μ:=fun i=>l.length - i,bG:=[],bM:=fun i=>[(31, .aw UInt8 l bX),(32,i64 (Int.ofNat l.length)),(33,i64 i)],cK:=fun _=>[]}
def uL (y:Bs):aS:={α:=Nat,ok:=fun i=>i<=(bq y 46).length/\ ∀j (h:j<(bq y 46).length),j<i->fF (bq y 46)[j]=true,μ:=fun i=>(bq y 46).length - i,bG:=[],bM:=fun i=>[(13,strs (bq y 46)),(14,i64 (Int.ofNat (bq y 46).length)),(15,i64 i)],cK:=fun _=>[]}
noncomputable def nq (f:FuncId):Option aP:=bif Nat.beq f pj then some xw else GM f
noncomputable def uA (f:FuncId):Option aP:=bif Nat.beq f lx then some (jg fF)else bif Nat.beq f lA then some (jg gO)else bif Nat.beq f lp then some (jg fC)else nq f
noncomputable def uB (f:FuncId):Option aP:=bif Nat.beq f oX then some (jg jc)else uA f
noncomputable def GP (f:FuncId):Option aP:=bif Nat.beq f lB then some (jg fO)else uB f
noncomputable def GQ (f:FuncId):Option aP:=GP f
noncomputable def GR (f:FuncId):Option aP:=GQ f
noncomputable def GS (f:FuncId):Option aP:=GR f
end
section
variable [Inhabited aD]
theorem NF:(cP (fun(y:aP.Y xw)=>dv cQ (eD y)) 400 pj)=(∀(y:UInt8×Bool),
 True->
 br (nB y.1==45)
 (br y.2 (false=fq (nB y.1) y.2/\True)
 (true=fq (nB y.1) y.2/\True))
 (br (bZ 97 (nB y.1))
 (br (bZ (nB y.1) 122) (true=fq (nB y.1) y.2/\True)
 (br (bZ 48 (nB y.1))
 (br (bZ (nB y.1) 57) (true=fq (nB y.1) y.2/\True)
 (br (nB y.1==95) (true=fq (nB y.1) y.2/\True)
 (false=fq (nB y.1) y.2/\True)))
 (br (nB y.1==95) (true=fq (nB y.1) y.2/\True)
 (false=fq (nB y.1) y.2/\True))))
 (br (bZ 48 (nB y.1))
 (br (bZ (nB y.1) 57) (true=fq (nB y.1) y.2/\True)
 (br (nB y.1==95) (true=fq (nB y.1) y.2/\True)
 (false=fq (nB y.1) y.2/\True)))
 (br (nB y.1==95) (true=fq (nB y.1) y.2/\True)
 (false=fq (nB y.1) y.2/\True))))):=by kernel_rfl
theorem NA:(cP (fun(y:aP.Y (jg fF))=>dv nq (dX lx 4 (nj y))) 400 lx)=(∀(y:List UInt8),
 y.length<=100000->
 br (y==Array.toList (ByteArray.data {data:=#[]})) (false=fF y/\True)
 (br (cH 63 (Int.ofNat y.length)) (false=fF y/\True)
 ((∃(x:Nat),
 (x<=y.length/\ ∀(j:Nat) (h:j<y.length),j<x->fq (nB y[j]) (j==0||j==y.length - 1)=true)/\
 (y=y/\aE (Int.ofNat y.length) (Int.ofNat y.length)/\aE 0 ↑x/\True)/\True/\True)/\
 ∀(x:Nat),
 (x<=y.length/\ ∀(j:Nat) (h:j<y.length),j<x->fq (nB y[j]) (j==0||j==y.length - 1)=true)->
 br (cH (↑x) (Int.ofNat y.length))
 (so y[Int.toNat ↑x]? fun(val:UInt8)=>
 br ((↑x:Int)==0)
 (∃(y_1:UInt8×Bool),
 aE (Int.ofNat (UInt8.toNat val)) (nB y_1.1)/\
 true=y_1.2/\
 True/\
 br (!fq (nB y_1.1) y_1.2) (false=fF y/\True)
 (ck (bY .i64 (↑x+1))
 (∃(y_2:Nat),
 (y_2<=y.length/\
 ∀(j:Nat) (h:j<y.length),j<y_2->fq (nB y[j]) (j==0||j==y.length - 1)=true)/\
 aS.μ (nj y) y_2<aS.μ (nj y) x/\
 (y=y/\aE (Int.ofNat y.length) (Int.ofNat y.length)/\aE (↑x+1) ↑y_2/\True)/\True/\True)))
 (ck (bY .i64 (Int.ofNat y.length - 1))
 (∃(y_1:UInt8×Bool),
 aE (Int.ofNat (UInt8.toNat val)) (nB y_1.1)/\
 ((↑x:Int)==Int.ofNat y.length - 1)=y_1.2/\
 True/\
 br (!fq (nB y_1.1) y_1.2) (false=fF y/\True)
 (ck (bY .i64 (↑x+1))
 (∃(y_2:Nat),
 (y_2<=y.length/\
 ∀(j:Nat) (h:j<y.length),j<y_2->fq (nB y[j]) (j==0||j==y.length - 1)=true)/\
 aS.μ (nj y) y_2<aS.μ (nj y) x/\
 (y=y/\aE (Int.ofNat y.length) (Int.ofNat y.length)/\aE (↑x+1) ↑y_2/\True)/\True/\True)))))
 (true=fF y/\True)))):=by kernel_rfl
theorem Om:(cP (fun(y:aP.Y (jg gO))=>dv nq (dX lA 5 (nv y))) 400 lA)=(∀(y:List UInt8),
 y.length<=100000->
 ∃(y_1:Bs×Int),
 y=y_1.1/\
 aE 46 y_1.2/\
 y_1.1.length<=100000/\
 br (!Int.ofNat (List.length (bq y_1.1 y_1.2))==4) (false=gO y/\True)
 ((∃(x:Nat),
 (x<=List.length (bq y 46)/\
 ∀(j:Nat) (h:j<List.length (bq y 46)),j<x->jd (bq y 46)[j]=true)/\
 (SV.aw Bs (bq y_1.1 y_1.2) bD=SV.aw Bs (bq y 46) bD/\
 aE (Int.ofNat (List.length (bq y_1.1 y_1.2))) (Int.ofNat (List.length (bq y 46)))/\
 aE 0 ↑x/\True)/\
 True/\True)/\
 ∀(x:Nat),
 (x<=List.length (bq y 46)/\
 ∀(j:Nat) (h:j<List.length (bq y 46)),j<x->jd (bq y 46)[j]=true)->
 br (cH (↑x) (Int.ofNat (List.length (bq y 46))))
 (so (bq y 46)[Int.toNat ↑x]? fun(val:Bs)=>
 ∃(y_2:List UInt8),
 val=y_2/\
 y_2.length<=1000000/\
 br (val==Array.toList (ByteArray.data {data:=#[]})) (false=gO y/\True)
 (∃(y_3:List UInt8),
 val=y_3/\
 y_3.length<=1000000/\
 br (cH (↑(ey y_3)) (Int.ofNat val.length)) (false=gO y/\True)
 (br (cH 255 (Prod.fst (cC y_2))) (false=gO y/\True)
 (br (cH 1 (Int.ofNat val.length))
 (so val[Int.toNat 0]? fun(val:UInt8)=>
 br (Int.ofNat (UInt8.toNat val)==48) (false=gO y/\True)
 (ck (bY .i64 (↑x+1))
 (∃(y_4:Nat),
 (y_4<=List.length (bq y 46)/\
 ∀(j:Nat) (h:j<List.length (bq y 46)),
 j<y_4->jd (bq y 46)[j]=true)/\
 aS.μ (nv y) y_4<aS.μ (nv y) x/\
 (SV.aw Bs (bq y 46) bD=
 SV.aw Bs (bq y 46) bD/\
 aE (Int.ofNat (List.length (bq y 46))) (Int.ofNat (List.length (bq y 46)))/\
 aE (↑x+1) ↑y_4/\True)/\
 True/\True)))
 (ck (bY .i64 (↑x+1))
 (∃(y_4:Nat),
 (y_4<=List.length (bq y 46)/\
 ∀(j:Nat) (h:j<List.length (bq y 46)),j<y_4->jd (bq y 46)[j]=true)/\
 aS.μ (nv y) y_4<aS.μ (nv y) x/\
 (SV.aw Bs (bq y 46) bD=
 SV.aw Bs (bq y 46) bD/\
 aE (Int.ofNat (List.length (bq y 46))) (Int.ofNat (List.length (bq y 46)))/\
 aE (↑x+1) ↑y_4/\True)/\
 True/\True))))))
 (true=gO y/\True))):=by kernel_rfl
theorem Nz:(cP (fun(y:aP.Y (jg fC))=>dv nq (dX lp 4 (fV y))) 400 lp)=(∀(y:List UInt8),
 y.length<=100000->
 br (cH (Int.ofNat y.length) 4) (false=fC y/\True)
 (br (cH 47 (Int.ofNat y.length)) (false=fC y/\True)
 (so y[Int.toNat 0]? fun(val:UInt8)=>
 br (!Int.ofNat (UInt8.toNat val)==91) (false=fC y/\True)
 (ck (bY .i64 (Int.ofNat y.length - 1))
 (ck (nn (Int.ofNat y.length - 1))
 (so y[Int.toNat (Int.ofNat y.length - 1)]? fun(val:UInt8)=>
 br (!Int.ofNat (UInt8.toNat val)==93) (false=fC y/\True)
 (ck (bY .i64 (Int.ofNat y.length - 1))
 (ck (nn (Int.ofNat y.length - 1))
 (ck (Nat.ble (Int.toNat 1) (Int.toNat (Int.ofNat y.length - 1))&&Nat.ble (Int.toNat (Int.ofNat y.length - 1)) y.length)
 ((∃(x:Nat),
 (x<=List.length (List.take (y.length - 2) (List.drop 1 y))/\
 ∀(j:Nat) (h:j<List.length (List.take (y.length - 2) (List.drop 1 y))),
 j<x->ed (List.take (y.length - 2) (List.drop 1 y))[j]=true)/\
 (SV.aw UInt8 (List.take (Int.toNat (Int.ofNat y.length - 1) - Int.toNat 1) (List.drop (Int.toNat 1) y)) bX=
 SV.aw UInt8 (List.take (y.length - 2) (List.drop 1 y)) bX/\
 aE (Int.ofNat (List.length (List.take (Int.toNat (Int.ofNat y.length - 1) - Int.toNat 1) (List.drop (Int.toNat 1) y))))
 (Int.ofNat (List.length (List.take (y.length - 2) (List.drop 1 y))))/\
 aE 0 ↑x/\True)/\
 True/\True)/\
 ∀(x:Nat),
 (x<=List.length (List.take (y.length - 2) (List.drop 1 y))/\
 ∀(j:Nat) (h:j<List.length (List.take (y.length - 2) (List.drop 1 y))),
 j<x->ed (List.take (y.length - 2) (List.drop 1 y))[j]=true)->
 br (cH (↑x) (Int.ofNat (List.length (List.take (y.length - 2) (List.drop 1 y)))))
 (so (List.take (y.length - 2) (List.drop 1 y))[Int.toNat ↑x]? fun(val:UInt8)=>
 br (bZ 48 (Int.ofNat (UInt8.toNat val)))
 (br (bZ (Int.ofNat (UInt8.toNat val)) 57)
 (ck (bY .i64 (↑x+1))
 (∃(y_1:Nat),
 (y_1<=List.length (List.take (y.length - 2) (List.drop 1 y))/\
 ∀(j:Nat) (h:j<List.length (List.take (y.length - 2) (List.drop 1 y))),
 j<y_1->ed (List.take (y.length - 2) (List.drop 1 y))[j]=true)/\
 aS.μ (fV y) y_1<aS.μ (fV y) x/\
 (SV.aw UInt8 (List.take (y.length - 2) (List.drop 1 y)) bX=
 SV.aw UInt8 (List.take (y.length - 2) (List.drop 1 y)) bX/\
 aE (Int.ofNat (List.length (List.take (y.length - 2) (List.drop 1 y))))
 (Int.ofNat (List.length (List.take (y.length - 2) (List.drop 1 y))))/\
 aE (↑x+1) ↑y_1/\True)/\
 True/\True))
 (br (bZ 97 (Int.ofNat (UInt8.toNat val)))
 (br (bZ (Int.ofNat (UInt8.toNat val)) 102)
 (ck (bY .i64 (↑x+1))
 (∃(y_1:Nat),
 (y_1<=List.length (List.take (y.length - 2) (List.drop 1 y))/\
 ∀(j:Nat) (h:j<List.length (List.take (y.length - 2) (List.drop 1 y))),
 j<y_1->ed (List.take (y.length - 2) (List.drop 1 y))[j]=true)/\
 aS.μ (fV y) y_1<aS.μ (fV y) x/\
 (SV.aw UInt8 (List.take (y.length - 2) (List.drop 1 y)) bX=
 SV.aw UInt8 (List.take (y.length - 2) (List.drop 1 y)) bX/\
 aE (Int.ofNat (List.length (List.take (y.length - 2) (List.drop 1 y))))
 (Int.ofNat (List.length (List.take (y.length - 2) (List.drop 1 y))))/\
 aE (↑x+1) ↑y_1/\True)/\
 True/\True))
 (br (Int.ofNat (UInt8.toNat val)==58)
 (ck (bY .i64 (↑x+1))
 (∃(y_1:Nat),
 (y_1<=List.length (List.take (y.length - 2) (List.drop 1 y))/\
 ∀(j:Nat) (h:j<List.length (List.take (y.length - 2) (List.drop 1 y))),
 j<y_1->ed (List.take (y.length - 2) (List.drop 1 y))[j]=true)/\
 aS.μ (fV y) y_1<aS.μ (fV y) x/\
 (SV.aw UInt8 (List.take (y.length - 2) (List.drop 1 y)) bX=
 SV.aw UInt8 (List.take (y.length - 2) (List.drop 1 y)) bX/\
 aE (Int.ofNat (List.length (List.take (y.length - 2) (List.drop 1 y))))
 (Int.ofNat (List.length (List.take (y.length - 2) (List.drop 1 y))))/\
 aE (↑x+1) ↑y_1/\True)/\
 True/\True))
 (br (!Int.ofNat (UInt8.toNat val)==46) (false=fC y/\True)
 (ck (bY .i64 (↑x+1))
 (∃(y_1:Nat),
 (y_1<=List.length (List.take (y.length - 2) (List.drop 1 y))/\
 ∀(j:Nat) (h:j<List.length (List.take (y.length - 2) (List.drop 1 y))),
 j<y_1->ed (List.take (y.length - 2) (List.drop 1 y))[j]=true)/\
 aS.μ (fV y) y_1<aS.μ (fV y) x/\
 (SV.aw UInt8 (List.take (y.length - 2) (List.drop 1 y)) bX=
 SV.aw UInt8 (List.take (y.length - 2) (List.drop 1 y)) bX/\
 aE (Int.ofNat (List.length (List.take (y.length - 2) (List.drop 1 y))))
 (Int.ofNat (List.length (List.take (y.length - 2) (List.drop 1 y))))/\
 aE (↑x+1) ↑y_1/\True)/\
 True/\True)))))
 (br (Int.ofNat (UInt8.toNat val)==58)
 (ck (bY .i64 (↑x+1))
 (∃(y_1:Nat),
 (y_1<=List.length (List.take (y.length - 2) (List.drop 1 y))/\
 ∀(j:Nat) (h:j<List.length (List.take (y.length - 2) (List.drop 1 y))),
 j<y_1->ed (List.take (y.length - 2) (List.drop 1 y))[j]=true)/\
 aS.μ (fV y) y_1<aS.μ (fV y) x/\
 (SV.aw UInt8 (List.take (y.length - 2) (List.drop 1 y)) bX=
 SV.aw UInt8 (List.take (y.length - 2) (List.drop 1 y)) bX/\
 aE (Int.ofNat (List.length (List.take (y.length - 2) (List.drop 1 y))))
 (Int.ofNat (List.length (List.take (y.length - 2) (List.drop 1 y))))/\
 aE (↑x+1) ↑y_1/\True)/\
 True/\True))
 (br (!Int.ofNat (UInt8.toNat val)==46) (false=fC y/\True)
 (ck (bY .i64 (↑x+1))
 (∃(y_1:Nat),
 (y_1<=List.length (List.take (y.length - 2) (List.drop 1 y))/\
 ∀(j:Nat) (h:j<List.length (List.take (y.length - 2) (List.drop 1 y))),
 j<y_1->ed (List.take (y.length - 2) (List.drop 1 y))[j]=true)/\
 aS.μ (fV y) y_1<aS.μ (fV y) x/\
 (SV.aw UInt8 (List.take (y.length - 2) (List.drop 1 y)) bX=
 SV.aw UInt8 (List.take (y.length - 2) (List.drop 1 y)) bX/\
 aE (Int.ofNat (List.length (List.take (y.length - 2) (List.drop 1 y))))
 (Int.ofNat (List.length (List.take (y.length - 2) (List.drop 1 y))))/\
 aE (↑x+1) ↑y_1/\True)/\
 True/\True))))))
 (br (bZ 97 (Int.ofNat (UInt8.toNat val)))
 (br (bZ (Int.ofNat (UInt8.toNat val)) 102)
 (ck (bY .i64 (↑x+1))
 (∃(y_1:Nat),
 (y_1<=List.length (List.take (y.length - 2) (List.drop 1 y))/\
 ∀(j:Nat) (h:j<List.length (List.take (y.length - 2) (List.drop 1 y))),
 j<y_1->ed (List.take (y.length - 2) (List.drop 1 y))[j]=true)/\
 aS.μ (fV y) y_1<aS.μ (fV y) x/\
 (SV.aw UInt8 (List.take (y.length - 2) (List.drop 1 y)) bX=
 SV.aw UInt8 (List.take (y.length - 2) (List.drop 1 y)) bX/\
 aE (Int.ofNat (List.length (List.take (y.length - 2) (List.drop 1 y))))
 (Int.ofNat (List.length (List.take (y.length - 2) (List.drop 1 y))))/\
 aE (↑x+1) ↑y_1/\True)/\
 True/\True))
 (br (Int.ofNat (UInt8.toNat val)==58)
 (ck (bY .i64 (↑x+1))
 (∃(y_1:Nat),
 (y_1<=List.length (List.take (y.length - 2) (List.drop 1 y))/\
 ∀(j:Nat) (h:j<List.length (List.take (y.length - 2) (List.drop 1 y))),
 j<y_1->ed (List.take (y.length - 2) (List.drop 1 y))[j]=true)/\
 aS.μ (fV y) y_1<aS.μ (fV y) x/\
 (SV.aw UInt8 (List.take (y.length - 2) (List.drop 1 y)) bX=
 SV.aw UInt8 (List.take (y.length - 2) (List.drop 1 y)) bX/\
 aE (Int.ofNat (List.length (List.take (y.length - 2) (List.drop 1 y))))
 (Int.ofNat (List.length (List.take (y.length - 2) (List.drop 1 y))))/\
 aE (↑x+1) ↑y_1/\True)/\
 True/\True))
 (br (!Int.ofNat (UInt8.toNat val)==46) (false=fC y/\True)
 (ck (bY .i64 (↑x+1))
 (∃(y_1:Nat),
 (y_1<=List.length (List.take (y.length - 2) (List.drop 1 y))/\
 ∀(j:Nat) (h:j<List.length (List.take (y.length - 2) (List.drop 1 y))),
 j<y_1->ed (List.take (y.length - 2) (List.drop 1 y))[j]=true)/\
 aS.μ (fV y) y_1<aS.μ (fV y) x/\
 (SV.aw UInt8 (List.take (y.length - 2) (List.drop 1 y)) bX=
 SV.aw UInt8 (List.take (y.length - 2) (List.drop 1 y)) bX/\
 aE (Int.ofNat (List.length (List.take (y.length - 2) (List.drop 1 y))))
 (Int.ofNat (List.length (List.take (y.length - 2) (List.drop 1 y))))/\
 aE (↑x+1) ↑y_1/\True)/\
 True/\True)))))
 (br (Int.ofNat (UInt8.toNat val)==58)
 (ck (bY .i64 (↑x+1))
 (∃(y_1:Nat),
 (y_1<=List.length (List.take (y.length - 2) (List.drop 1 y))/\
 ∀(j:Nat) (h:j<List.length (List.take (y.length - 2) (List.drop 1 y))),
 j<y_1->ed (List.take (y.length - 2) (List.drop 1 y))[j]=true)/\
 aS.μ (fV y) y_1<aS.μ (fV y) x/\
 (SV.aw UInt8 (List.take (y.length - 2) (List.drop 1 y)) bX=
 SV.aw UInt8 (List.take (y.length - 2) (List.drop 1 y)) bX/\
 aE (Int.ofNat (List.length (List.take (y.length - 2) (List.drop 1 y))))
 (Int.ofNat (List.length (List.take (y.length - 2) (List.drop 1 y))))/\
 aE (↑x+1) ↑y_1/\True)/\
 True/\True))
 (br (!Int.ofNat (UInt8.toNat val)==46) (false=fC y/\True)
 (ck (bY .i64 (↑x+1))
 (∃(y_1:Nat),
 (y_1<=List.length (List.take (y.length - 2) (List.drop 1 y))/\
 ∀(j:Nat) (h:j<List.length (List.take (y.length - 2) (List.drop 1 y))),
 j<y_1->ed (List.take (y.length - 2) (List.drop 1 y))[j]=true)/\
 aS.μ (fV y) y_1<aS.μ (fV y) x/\
 (SV.aw UInt8 (List.take (y.length - 2) (List.drop 1 y)) bX=
 SV.aw UInt8 (List.take (y.length - 2) (List.drop 1 y)) bX/\
 aE (Int.ofNat (List.length (List.take (y.length - 2) (List.drop 1 y))))
 (Int.ofNat (List.length (List.take (y.length - 2) (List.drop 1 y))))/\
 aE (↑x+1) ↑y_1/\True)/\
 True/\True))))))
 (true=fC y/\True))))))))))):=by kernel_rfl
theorem Og:(cP (fun(y:aP.Y (jg jc))=>dv uA (eD y)) 400 oX)=(∀(y:List UInt8),
 y.length<=100000->
 ∃(y_1:List UInt8),
 y=y_1/\
 y_1.length<=100000/\
 br (gO y_1) (true=jc y/\True)
 (∃(y_2:List UInt8),y=y_2/\y_2.length<=100000/\fC y_2=jc y/\True)):=by kernel_rfl
theorem Pz:(cP (fun(y:aP.Y (jg fO))=>dv uB (dX lB 4 (uL y))) 400 lB)=(∀(y:List UInt8),
 y.length<=100000->
 br (cH 256 (Int.ofNat y.length)) (false=fO y/\True)
 (∃(y_1:List UInt8),
 y=y_1/\
 y_1.length<=100000/\
 br (jc y_1) (false=fO y/\True)
 (∃(y_2:Bs×Int),
 y=y_2.1/\
 aE 46 y_2.2/\
 y_2.1.length<=100000/\
 (∃(x:Nat),
 (x<=List.length (bq y 46)/\
 ∀(j:Nat) (h:j<List.length (bq y 46)),j<x->fF (bq y 46)[j]=true)/\
 (SV.aw Bs (bq y_2.1 y_2.2) bD=
 SV.aw Bs (bq y 46) bD/\
 aE (Int.ofNat (List.length (bq y_2.1 y_2.2))) (Int.ofNat (List.length (bq y 46)))/\
 aE 0 ↑x/\True)/\
 True/\True)/\
 ∀(x:Nat),
 (x<=List.length (bq y 46)/\
 ∀(j:Nat) (h:j<List.length (bq y 46)),j<x->fF (bq y 46)[j]=true)->
 br (cH (↑x) (Int.ofNat (List.length (bq y 46))))
 (so (bq y 46)[Int.toNat ↑x]? fun(val:Bs)=>
 ∃(y_3:List UInt8),
 val=y_3/\
 y_3.length<=100000/\
 br (!fF y_3) (false=fO y/\True)
 (ck (bY .i64 (↑x+1))
 (∃(y_4:Nat),
 (y_4<=List.length (bq y 46)/\
 ∀(j:Nat) (h:j<List.length (bq y 46)),j<y_4->fF (bq y 46)[j]=true)/\
 aS.μ (uL y) y_4<aS.μ (uL y) x/\
 (SV.aw Bs (bq y 46) bD=
 SV.aw Bs (bq y 46) bD/\
 aE (Int.ofNat (List.length (bq y 46))) (Int.ofNat (List.length (bq y 46)))/\
 aE (↑x+1) ↑y_4/\True)/\
 True/\True)))
 (true=fO y/\True)))):=by kernel_rfl
end
section
variable [Inhabited aD]
section
variable {α:Type} {l:List α} {p:α->Bool} {x:Nat}
theorem wB (h:∀(j:Nat) (h:j<l.length),j<x->p l[j]=true) (hx:¬(x:Int)<Int.ofNat l.length):l.all p=true:=by
 rw[AA];intro a ha;obtain⟨j,hj,rfl⟩:=BP ha;exact h j hj (by simp only[Ak]at hx;omega)
theorem tF (h:x<l.length) (hp:p l[x]=false):l.all p=false:=by
 rw[AY];intro ha;rw[AA]at ha;rw[ha _ (Bb h)]at hp
 cases hp
theorem wC (h:∀(j:Nat) (h:j<l.length),j<x->p l[j]=true) (hx:x<l.length) (hp:p l[x]=true):∀(j:Nat) (h:j<l.length),j<x+1->p l[j]=true:=by
 intro j hj hjx;by_cases e:j=x
 . subst e;exact hp
 . exact h j hj (by omega)
end
theorem eo {x n:Nat} (h:cH (x:Int) (Int.ofNat n)=true):x<n:=by
 rw[dY,Ah,Ak]at h;omega
theorem ko {x n:Nat} (h:cH (x:Int) (Int.ofNat n)=false):¬(x:Int)<Int.ofNat n:=by
 rw[dY,Ao]at h;exact h
theorem eM {α:Type} {l:List α} {x:Nat} (h:x<l.length):l[Int.toNat (x:Int)]? =some l[x]:=by simp[h]
theorem N6:CO pj xw:=cZ (cfg:=fun y=>dv cQ (eD y)) ch (fun _=>rfl) (fun _=>jS) (n:=400) (by
 rw[NF];rintro⟨b,e⟩ -;simp only[au,gT,fq,Eb,Ah,Ao,B6,Fe];refine⟨fun h=>⟨fun h2=>by simp[h,h2],fun h2=>by simp[h,h2]⟩,fun h=>⟨fun h1=>⟨fun h2=>?_,fun h2=>⟨fun h3=>⟨fun h4=>?_,fun h4=>⟨fun h5=>?_,fun h5=>?_⟩⟩,fun h3=>⟨fun h5=>?_,fun h5=>?_⟩⟩⟩,fun h1=>⟨fun h3=>⟨fun h4=>?_,fun h4=>⟨fun h5=>?_,fun h5=>?_⟩⟩,fun h3=>⟨fun h5=>?_,fun h5=>?_⟩⟩⟩⟩
 all_goals (simp_all<;>omega))
theorem tI:∀g C,nq g=some C->CO g C:=cW N6 L3
theorem tD (b:UInt8) (e:Bool):fq (nB b) e=(qc b&& !(nB b==45&&e)):=by
 unfold fq qc;by_cases h:nB b=45
 . simp[h]
 . have:(nB b==45)=false:=by simpa using h
   simp[h,this]
theorem mh (b:UInt8):b=45↔nB b=45:=⟨fun h=>by rw[h];rfl,fun h=>xD (h.trans rfl)⟩
theorem zN (s:Bs) (h0:s≠[]) (h63:s.length<=63):fF s=true↔∀(j:Nat) (h:j<s.length),fq (nB s[j]) (j==0||j==s.length - 1)=true:=by
 have hp:0<s.length:=Dw.2 h0;have hhd:s.head? =some s[0]:=by rw[DC];simp[hp]
 have htl:s.getLast? =some (s[s.length - 1]'(by omega)):=by rw[EM];simp[hp]
 unfold fF;rw[hhd,htl];simp only[Ab,bne_iff_ne,ne_eq,h0,Be,Ah,h63,true_and,AA,AI];constructor
 . rintro⟨⟨h1,h2⟩,h3⟩ j hj;rw[tD,h1 _ (Bb hj)];by_cases e0:j=0
   . subst e0;rw[mh]at h2;simp[h2]
   . by_cases e1:j=s.length - 1
     . subst e1;rw[mh]at h3;simp[h3]
     . simp[e0,e1]
 . intro h;refine⟨⟨fun b hb=>?_,?_⟩,?_⟩
   . obtain⟨j,hj,rfl⟩:=BP hb;have:=h j hj;rw[tD,Ab]at this;exact this.1
   . have:=h 0 hp;rw[tD,Ab]at this;rw[mh];have h2:=this.2;simpa using h2
   . have:=h (s.length - 1) (by omega);rw[tD,Ab]at this;rw[mh];have h2:=this.2;simpa using h2
theorem zi {s:Bs} (h0:s≠[]) (h63:s.length<=63) {x:Nat} (h:x<s.length) (hx:fq (nB s[x]) (x==0||x==s.length - 1)=false):fF s=false:=by
 rw[AY];intro hl;rw[(zN s h0 h63).1 hl x h]at hx
 cases hx
theorem KE {s:Bs} (h:63<s.length):fF s=false:=by
 unfold fF;have:decide (s.length<=63)=false:=by simp;omega
 simp[this]
theorem NX:CO lx (jg fF):=cZ (cfg:=fun y=>dv nq (dX lx 4 (nj y))) ch (fun _=>rfl) (fun _=>tI) (n:=400) (by
 rw[NA];intro s hpre;have hpre:s.length<=100000:=hpre;refine au.2 ⟨fun h=>?_,fun h=>au.2 ⟨fun h2=>?_,fun h2=>⟨⟨0,⟨by simp,fun j h hj=>by omega⟩,⟨rfl,rfl,rfl,trivial⟩,trivial,trivial⟩,?_⟩⟩⟩
 . have:s=[]:=by simpa using h
   subst this;exact⟨rfl,trivial⟩
 . rw[dY,Ah,Ak]at h2;exact⟨(KE (by omega)).symm,trivial⟩
 have h0:s≠[]:=by simpa using h
 have h63:s.length<=63:=by
   rw[dY,Ao,Ak]at h2;omega
 rintro x ⟨hx,hall⟩;refine au.2 ⟨fun hlt=>aJ.2 ⟨_,eM (eo hlt),?_⟩,fun hge=>⟨((zN s h0 h63).2 fun j hj=>hall j hj (by have:=ko hge;simp only[Ak]at this;omega)).symm,trivial⟩⟩;have hlt':=eo hlt;have next:fq (nB s[x]) (x==0||x==s.length - 1)=true->∃(y_2:Nat),(y_2<=s.length/\ ∀(j:Nat) (h:j<s.length),j<y_2->fq (nB s[j]) (j==0||j==s.length - 1)=true)/\(nj s).μ y_2<(nj s).μ x/\(s=s/\aE (Int.ofNat s.length) (Int.ofNat s.length)/\aE (↑x+1) ↑y_2/\True)/\True/\True:=by
   intro he;refine⟨x+1,⟨by omega,fun j hj hjx=>?_⟩,?_,⟨rfl,rfl,by simp[aE],trivial⟩,trivial,trivial⟩
   . by_cases e:j=x
     . subst e;exact he
     . exact hall j hj (by omega)
   . show s.length - (x+1)<s.length - x
     omega
 refine au.2 ⟨fun hx0=>⟨(s[x],true),rfl,rfl,trivial,au.2 ⟨fun hs=>?_,fun hs=>aq.2 ⟨eG x (by omega),next ?_⟩⟩⟩,fun hx0=>aq.2 ⟨by rw[nr,Ak];omega,(s[x],(x:Int)==Int.ofNat s.length - 1),rfl,rfl,trivial,au.2 ⟨fun hs=>?_,fun hs=>aq.2 ⟨eG x (by omega),next ?_⟩⟩⟩⟩
 . have:x=0:=by simpa using hx0
   subst this;exact⟨(zi h0 h63 hlt' (by simpa using hs)).symm,trivial⟩
 . have:x=0:=by simpa using hx0
   subst this;simpa using hs
 . have hx1:¬x=0:=by simpa using hx0
   have e:((x:Int)==Int.ofNat s.length - 1)=(x==0||x==s.length - 1):=by
     rw[Bh];simp[hx1];omega
   rw[e]at hs;exact⟨(zi h0 h63 hlt' (by simpa using hs)).symm,trivial⟩
 . have hx1:¬x=0:=by simpa using hx0
   have e:((x:Int)==Int.ofNat s.length - 1)=(x==0||x==s.length - 1):=by
     rw[Bh];simp[hx1];omega
   rw[e]at hs;simpa using hs)
theorem Il {s:Bs} {x:Nat} (h:x<s.length) (hx:qc s[x]=false):fF s=false:=by
 unfold fF;rw[tF h hx];simp
theorem Ks {s:Bs} {x:Nat} (h:x<(bq s 46).length) (hp:jd (bq s 46)[x]=false):gO s=false:=by
 unfold gO;rw[tF h hp];simp
theorem CP {s:Bs} {x:Nat} (h:x<(bq s 46).length):((bq s 46)[x]).length<=s.length:=I8 s 46 _ (Bb h)
theorem Oy:CO lA (jg gO):=cZ (cfg:=fun y=>dv nq (dX lA 5 (nv y))) ch (fun _=>rfl) (fun _=>tI) (n:=400) (by
 rw[Om];intro s hpre;have hpre:s.length<=100000:=hpre;have hsl:=zw s 46;refine⟨(s,46),rfl,rfl,hpre,au.2 ⟨fun h=>?_,fun h=>⟨⟨0,⟨by simp,fun j h hj=>by omega⟩,⟨rfl,rfl,rfl,trivial⟩,trivial,trivial⟩,?_⟩⟩⟩
 . refine⟨?_,trivial⟩;unfold gO;have:¬(bq s 46).length=4:=by
     simp only[AX,Fe,ne_eq,Ak]at h;omega
   simp[this]
 have h4:(bq s 46).length=4:=by
   simp only[Ep,B6,Ak]at h;omega
 rintro x ⟨hx,hall⟩;refine au.2 ⟨fun hlt=>aJ.2 ⟨_,eM (eo hlt),?_⟩,fun hge=>⟨?_,trivial⟩⟩
 . have hx':=eo hlt;have hpl:=CP hx';have next:jd (bq s 46)[x]=true->ck (bY Go.IntKind.i64 (↑x+1)) (∃(y_4:Nat),(y_4<=(bq s 46).length/\ ∀(j:Nat) (h:j<(bq s 46).length),j<y_4->jd (bq s 46)[j]=true)/\(nv s).μ y_4<(nv s).μ x/\(SV.aw Bs (bq s 46) bD=SV.aw Bs (bq s 46) bD/\aE (Int.ofNat (bq s 46).length) (Int.ofNat (bq s 46).length)/\aE (↑x+1) ↑y_4/\True)/\True/\True):=by
     intro hp;refine aq.2 ⟨eG x (by omega),x+1,⟨hx',wC hall hx' hp⟩,?_,⟨rfl,rfl,by simp[aE],trivial⟩,trivial,trivial⟩;show(bq s 46).length - (x+1)<(bq s 46).length - x
     omega
   generalize hpe:(bq s 46)[x]=p at*
   have fail:jd p=false->false=gO s:=fun h=>(Ks hx' (by rw[hpe];exact h)).symm
   refine⟨p,rfl,by omega,au.2 ⟨fun h1=>⟨fail ?_,trivial⟩,fun h1=>⟨p,rfl,by omega,au.2 ⟨fun h2=>⟨fail ?_,trivial⟩,fun h2=>au.2 ⟨fun h3=>⟨fail ?_,trivial⟩,fun h3=>au.2 ⟨fun h5=>?_,fun h5=>next ?_⟩⟩⟩⟩⟩⟩
   . have:p=[]:=by simpa using h1
     subst this;rfl
   . have:=eo h2;unfold jd;have h2':¬ey p=p.length:=by omega
     simp[h2']
   . rw[dY,Ah]at h3;unfold jd;have:¬(cC p).1<=255:=by omega
     simp[this]
   all_goals (have hp0:p≠[]:=by simpa using h1)
   all_goals (have hd:ey p=p.length:=by have:=ko h2;have:=wJ p;simp only[Ak]at*;omega)
   all_goals (have h255:(cC p).1<=255:=by rw[dY,Ao]at h3;omega)
   . rw [dY,Ah,Ak]at h5;have hpl1:1<p.length:=by omega
     refine aJ.2 ⟨p[0],by simp[show 0<p.length by omega],au.2 ⟨fun h6=>⟨fail ?_,trivial⟩,fun h6=>next ?_⟩⟩
     . have:p.head? =some 48:=by
        rw[DC,Ae (by omega)];congr 1
        exact xD (by simpa [nB]using h6)
       unfold jd;simp[this,hpl1]
     . have:¬p.head? =some 48:=by
        rw[DC,Ae (by omega)];intro e;simp only[AI]at e;rw[e]at h6;simp at h6
       unfold jd;simp[this,hp0,hd,h255]
   . rw[dY,Ao,Ak]at h5;have hpl1:¬1<p.length:=by omega
     unfold jd;simp[hpl1,hp0,hd,h255]
 . unfold gO;rw[wB hall (ko hge)];simp[h4])
theorem OV {b:UInt8} {P Q:Prop} (hp:ed b=true->P) (hq:ed b=false->Q):
  br (bZ 48 (Int.ofNat (UInt8.toNat b))) (br (bZ (Int.ofNat (UInt8.toNat b)) 57) P (br (bZ 97 (Int.ofNat (UInt8.toNat b))) (br (bZ (Int.ofNat (UInt8.toNat b)) 102) P (br (Int.ofNat (UInt8.toNat b)==58) P (br (!Int.ofNat (UInt8.toNat b)==46) Q P))) (br (Int.ofNat (UInt8.toNat b)==58) P (br (!Int.ofNat (UInt8.toNat b)==46) Q P))))
   (br (bZ 97 (Int.ofNat (UInt8.toNat b))) (br (bZ (Int.ofNat (UInt8.toNat b)) 102) P (br (Int.ofNat (UInt8.toNat b)==58) P (br (!Int.ofNat (UInt8.toNat b)==46) Q P))) (br (Int.ofNat (UInt8.toNat b)==58) P (br (!Int.ofNat (UInt8.toNat b)==46) Q P))):=by
 rw[Gs];have e:ed b=((bZ 48 (nB b)&&bZ (nB b) 57)||(bZ 97 (nB b)&&bZ (nB b) 102)||(nB b==58)||(nB b==46)):=by
  simp only[gT];rfl
 rw[e]at hp hq;generalize bZ 48 (nB b)=a1 at*
 generalize bZ (nB b) 57=a2 at*
 generalize bZ 97 (nB b)=a3 at*
 generalize bZ (nB b) 102=a4 at*
 generalize (nB b==58)=a5 at*
 generalize (nB b==46)=a6 at*
 cases a1<;>cases a2<;>cases a3<;>cases a4<;>cases a5<;>cases a6<;>simp_all[br]
theorem tG {s:Bs} (h4:4<=s.length):s.head? =some (s[0]'(by omega))/\s.getLast? =some (s[s.length - 1]'(by omega)):=by
 rw[DC,EM];exact⟨by simp[show 0<s.length by omega],by simp[show 0<s.length by omega]⟩
theorem It {s:Bs} (h:s.length<4):fC s=false:=by
 unfold fC;have:decide (4<=s.length)=false:=by simp;omega
 simp[this]
theorem Jw {s:Bs} (h:47<s.length):fC s=false:=by
 unfold fC;have:decide (s.length<=47)=false:=by simp;omega
 simp[this]
theorem fR {b:UInt8} {n:UInt8}:(Int.ofNat b.toNat==nB n)=true↔b=n:=by
 constructor
 . intro h;exact xD (by simpa [nB]using h)
 . intro h;subst h;simp[nB]
theorem Is {s:Bs} (h4:4<=s.length) (h:(!Int.ofNat (UInt8.toNat (s[0]'(by omega)))==91)=true):fC s=false:=by
 have:s[0]'(by omega)≠91:=by
  intro e;rw[AX]at h;rw[show(91:Int)=nB 91 from rfl,fR.2 e]at h
  cases h
 unfold fC;rw[(tG h4).1];simp[this]
theorem Jg {s:Bs} (h4:4<=s.length) (h:(!Int.ofNat (UInt8.toNat (s[s.length - 1]'(by omega)))==93)=true):fC s=false:=by
 have:s[s.length - 1]'(by omega)≠93:=by
  intro e;rw[AX]at h;rw[show(93:Int)=nB 93 from rfl,fR.2 e]at h
  cases h
 unfold fC;rw[(tG h4).2];simp[this]
theorem Jx {s:Bs} (h4:4<=s.length) (h47:s.length<=47) (h1:(!Int.ofNat (UInt8.toNat (s[0]'(by omega)))==91)=false) (h2:(!Int.ofNat (UInt8.toNat (s[s.length - 1]'(by omega)))==93)=false):fC s=((s.drop 1).take (s.length - 2)).all ed:=by
 have e1:s[0]'(by omega)=91:=fR.1 (by simpa [nB]using h1);have e2:s[s.length - 1]'(by omega)=93:=fR.1 (by simpa [nB]using h2);unfold fC;rw[(tG h4).1,(tG h4).2,e1,e2];simp[h4,h47]
theorem NS:CO lp (jg fC):=cZ (cfg:=fun y=>dv nq (dX lp 4 (fV y))) ch (fun _=>rfl) (fun _=>tI) (n:=400) (by
 rw[Nz];intro s hpre;have hpre:s.length<=100000:=hpre;refine au.2 ⟨fun h=>⟨(It (by rw[dY,Ah,Ak]at h;omega)).symm,trivial⟩,fun h=>au.2 ⟨fun h2=>⟨(Jw (by rw[dY,Ah,Ak]at h2;omega)).symm,trivial⟩,fun h2=>?_⟩⟩;have h4:4<=s.length:=by rw[dY,Ao,Ak]at h;omega
 have h47:s.length<=47:=by rw[dY,Ao,Ak]at h2;omega
 have hi:Int.toNat (Int.ofNat s.length - 1)=s.length - 1:=by rw[Ak];omega
 have hr:bY Go.IntKind.i64 (Int.ofNat s.length - 1)=true:=by rw[nr,Ak];omega
 have hn:nn (Int.ofNat s.length - 1)=true:=by rw[qa,Ah,Ak];omega
 rw[hi];refine aJ.2 ⟨s[0]'(by omega),by simp[show 0<s.length by omega],au.2 ⟨fun h5=>⟨(Is h4 h5).symm,trivial⟩,fun h5=>aq.2 ⟨hr,aq.2 ⟨hn,aJ.2 ⟨s[s.length - 1]'(by omega),by simp[show 0<s.length by omega],au.2 ⟨fun h6=>⟨(Jg h4 h6).symm,trivial⟩,fun h6=>aq.2 ⟨hr,aq.2 ⟨hn,aq.2 ⟨by simp;omega,⟨0,⟨by simp,fun j h hj=>by omega⟩,⟨?_,?_,rfl,trivial⟩,trivial,trivial⟩,?_⟩⟩⟩⟩⟩⟩⟩⟩⟩
 . rw[show s.length - 1 - Int.toNat 1=s.length - 2 by simp;omega];rfl
 . rw[show s.length - 1 - Int.toNat 1=s.length - 2 by simp;omega];rfl
 have hb:=Jx h4 h47 h5 h6;rintro x ⟨hx,hall⟩;refine au.2 ⟨fun hlt=>aJ.2 ⟨_,eM (eo hlt),OV (fun hh=>aq.2 ⟨eG x (by have:=eo hlt;simp at this;omega),x+1,⟨eo hlt,wC hall (eo hlt) hh⟩,?_,⟨rfl,rfl,by simp[aE],trivial⟩,trivial,trivial⟩) (fun hh=>⟨?_,trivial⟩)⟩,fun hge=>⟨?_,trivial⟩⟩
 . have:=eo hlt;show((s.drop 1).take (s.length - 2)).length - (x+1)<((s.drop 1).take (s.length - 2)).length - x
   omega
 . rw[hb,tF (eo hlt) hh]
 . rw[hb,wB hall (ko hge)])
theorem CH:∀g C,uA g=some C->CO g C:=cW NX (cW Oy (cW NS tI))
theorem Oq:CO oX (jg jc):=cZ (cfg:=fun y=>dv uA (eD y)) ch (fun _=>rfl) (fun _=>CH) (n:=400) (by
 rw[Og];intro s hpre;refine⟨s,rfl,hpre,au.2 ⟨fun h=>⟨by unfold jc;rw[h];rfl,trivial⟩,fun h=>⟨s,rfl,hpre,by unfold jc;rw[h];rfl,trivial⟩⟩⟩)
theorem MS {s:Bs} (h:256<s.length):fO s=false:=by
 unfold fO;have:decide (s.length<=256)=false:=by simp;omega
 simp[this]
theorem Lg {s:Bs} (h:gO s=true):fO s=false:=by
 unfold fO;simp[h]
theorem Ke {s:Bs} (h:fC s=true):fO s=false:=by
 unfold fC at h;simp only[Ab,B6]at h;have h1:=h.1.1.2
 cases s with
 |nil=>simp at h1
 | cons b s=>
  simp only[List.head?_cons,AI]at h1;subst h1;have:(bq (91::s) 46).all fF=false:=by
   have hs:bq (91::s) 46=(match bq s 46 with|h::t=>(91::h)::t|[]=>[[91]]):=by
    rw[bq];rw[if_neg (by decide)]
    try (cases bq s 46<;>rfl)
   rw[hs];have hl:∀h:Bs,fF (91::h)=false:=fun h=>Il (s:=91::h) (x:=0) (by simp) (by simp[qc,nB])
   cases bq s 46 with
   |nil=>simp[hl]
   |cons h t=>simp[hl]
  unfold fO;rw[this];simp
theorem Lf {s:Bs} {x:Nat} (h:x<(bq s 46).length) (hp:fF (bq s 46)[x]=false):fO s=false:=by
 unfold fO;rw[tF h hp];simp
theorem Le {s:Bs} (h1:s.length<=256) (h2:gO s=false):fO s=(bq s 46).all fF:=by
 unfold fO;simp[h1,h2]
theorem CI:∀g C,uB g=some C->CO g C:=cW Oq CH
theorem OB:CO lB (jg fO):=cZ (cfg:=fun y=>dv uB (dX lB 4 (uL y))) ch (fun _=>rfl) (fun _=>CI) (n:=400) (by
 rw[Pz];intro s hpre;have hpre:s.length<=100000:=hpre;have hsl:=zw s 46;refine au.2 ⟨fun h=>⟨(MS (by rw[dY,Ah,Ak]at h;omega)).symm,trivial⟩,fun h=>⟨s,rfl,hpre,au.2 ⟨fun h2=>⟨?_,trivial⟩,fun h2=>⟨(s,46),rfl,rfl,hpre,⟨0,⟨by simp,fun j h hj=>by omega⟩,⟨rfl,rfl,rfl,trivial⟩,trivial,trivial⟩,?_⟩⟩⟩⟩
 . unfold jc at h2;rw[BF]at h2;rcases h2 with h2|h2
   . exact(Lg h2).symm
   . exact(Ke h2).symm
 have h256:s.length<=256:=by rw[dY,Ao,Ak]at h;omega
 have h3:gO s=false:=by unfold jc at h2;rw[Bool.or_eq_false_iff]at h2;exact h2.1
 rintro x ⟨hx,hall⟩;refine au.2 ⟨fun hlt=>aJ.2 ⟨_,eM (eo hlt),_,rfl,?_,au.2 ⟨fun hh=>⟨(Lf (eo hlt) (by simpa using hh)).symm,trivial⟩,fun hh=>aq.2 ⟨eG x (by have:=eo hlt;omega),x+1,⟨eo hlt,wC hall (eo hlt) (by simpa using hh)⟩,?_,⟨rfl,rfl,by simp[aE],trivial⟩,trivial,trivial⟩⟩⟩,fun hge=>⟨?_,trivial⟩⟩
 . have:=CP (eo hlt);omega
 . have:=eo hlt;show(bq s 46).length - (x+1)<(bq s 46).length - x
   omega
 . rw[Le h256 h3,wB hall (ko hge)])
theorem Lz:∀g C,GP g=some C->CO g C:=cW OB CI
theorem LA:∀g C,GQ g=some C->CO g C:=Lz
theorem LB:∀g C,GR g=some C->CO g C:=LA
theorem LC:∀g C,GS g=some C->CO g C:=LB
end
end Go.Proofs
namespace Go.Proofs
open Go Go.Am Go.RowKit Go.Sy Go.Lib
structure ay where
 name:Bs
 domain:Bs
 path:Bs
deriving DecidableEq,Inhabited
structure dP where
 value:Bs
 aH:Bool
 aZ:Bool
 aI:Bool
 persistent:Bool
 aW:Int
 aG:Int
 access:Int
deriving DecidableEq,Inhabited
structure aa where
 key:ay
 ab:dP
deriving DecidableEq,Inhabited
structure jw where
 mg:Int
 domain:Int
 total:Int
 rules:List Bs
def ay.enc (x:ay):List SV:=[.str x.name, .str x.domain, .str x.path]
def dP.enc (x:dP):List SV:=[.str x.value, .bool x.aH, .bool x.aZ, .bool x.aI, .bool x.persistent, .int .i64 x.aW, .int .i64 x.aG, .int .i64 x.access]
def aa.enc (x:aa):List SV:=[.str x.key.name, .str x.key.domain, .str x.key.path, .str x.ab.value, .bool x.ab.aH, .bool x.ab.aZ, .bool x.ab.aI, .bool x.ab.persistent, .int .i64 x.ab.aW, .int .i64 x.ab.aG, .int .i64 x.ab.access]
def jw.enc (x:jw):List SV:=[.int .i64 x.mg, .int .i64 x.domain, .int .i64 x.total, .aw Bs x.rules bD]
abbrev lt (a b:Bs):Bool:=Op.bytesLess a b
theorem lt_irrefl:∀a,lt a a=false
 |[]=>rfl
 |a::l=>by simp[lt,Op.bytesLess];exact lt_irrefl l
theorem lt_trans:∀a b c,lt a b=true->lt b c=true->lt a c=true:=by
 intro a;induction a with
 |nil=>intro b c h1 h2;cases c with
  |nil=>cases b<;>simp[lt,Op.bytesLess]at h1 h2
  |cons=>rfl
 | cons x a ih=>
  intro b c h1 h2
  cases b with
  |nil=>simp[lt,Op.bytesLess]at h1
  | cons y b=>cases c with
   |nil=>simp[lt,Op.bytesLess]at h2
   |cons z c=>
    simp only[lt,Op.bytesLess,BF,Ah,Ab,B6]at*;rcases h1 with h1|⟨rfl,h1⟩<;>rcases h2 with h2|⟨rfl,h2⟩
    . exact .inl (UInt8.lt_trans h1 h2)
    . exact .inl h1
    . exact .inl h2
    . exact .inr ⟨rfl,ih b c h1 h2⟩
theorem ux:∀a b,lt a b=true\/a=b\/lt b a=true:=by
 intro a;induction a with
 |nil=>intro b;cases b<;>simp[lt,Op.bytesLess]
 | cons x a ih=>
  intro b
  cases b with
  |nil=>simp[lt,Op.bytesLess]
  |cons y b=>
   simp only[lt,Op.bytesLess,BF,Ah,Ab,B6,BE];rcases Nat.lt_trichotomy x.toNat y.toNat with h|h|h
   . exact .inl (.inl (E3.2 h))
   . have h:x=y:=Ee.1 h;subst h;rcases ih b with h|h|h
     . exact .inl (.inr ⟨rfl,h⟩)
     . exact .inr (.inl ⟨rfl,h⟩)
     . exact .inr (.inr (.inr ⟨rfl,h⟩))
   . exact .inr (.inr (.inl (E3.2 h)))
def de (a b:Bs):Int:=if lt a b then -1 else if a=b then 0 else 1
theorem HN:∀(a b:Bs),compareBytes a b=de a b:=by
 intro a;induction a with
 |nil=>intro b;cases b<;>simp[compareBytes,de,lt,Op.bytesLess]
 | cons x a ih=>
  intro b
  cases b with
  |nil=>simp[compareBytes,de,lt,Op.bytesLess]
  |cons y b=>
   simp only[compareBytes,ih b,de,lt,Op.bytesLess,BF,Ah,Ab,B6,BE];by_cases h1:x<y
   . simp[h1]
   . by_cases h2:y<x
     . have:x≠y:=by rintro rfl;exact h1 h2
       simp[h1,h2,this]
     . have:x=y:=Ee.1 (by have:=UInt8.not_lt.1 h1;have:=UInt8.not_lt.1 h2;simp[UInt8.le_iff_toNat_le]at*;omega);subst this;simp
theorem KH (a b:Bs):Extern.BytealgCompare.cmp ⟨a.toArray⟩ ⟨b.toArray⟩=de a b:=by
 rw[cmp_eq,HN]
theorem tw (a b:Bs):de a b=0↔a=b:=by
 unfold de;by_cases h:a=b
 . subst h;simp[lt_irrefl]
 . by_cases h1:lt a b=true<;>simp[h,h1]
theorem wE (a b:Bs):de a b<0↔lt a b=true:=by
 unfold de;by_cases h1:lt a b=true
 . simp[h1]
 . by_cases h:a=b<;>simp[h,h1]<;>simp_all[lt_irrefl]
def eA (a b:Int):Int:=if a<b then -1 else if b<a then 1 else 0
theorem KG (a b:Int):eA a b=0↔a=b:=by
 unfold eA;by_cases h:a<b
 . rw[if_pos h];omega
 . rw[if_neg h];by_cases h2:b<a
   . rw[if_pos h2];omega
   . rw[if_neg h2];omega
theorem L2 (a b:Int):eA a b<0↔a<b:=by
 unfold eA;by_cases h:a<b
 . rw[if_pos h];omega
 . rw[if_neg h];by_cases h2:b<a
   . rw[if_pos h2];omega
   . rw[if_neg h2];omega
def mI (a b:ay):Int:=let n:=de a.name b.name;if n≠0 then n else let d:=de a.domain b.domain;if d≠0 then d else de a.path b.path
def bF (a b:ay):Bool:=decide (mI a b<0)
theorem sQ (a b:ay):bF a b=if a.name≠b.name then lt a.name b.name else if a.domain≠b.domain then lt a.domain b.domain else lt a.path b.path:=by
 rw[Bh];unfold bF mI;by_cases h1:a.name=b.name
 . have e1:=(tw a.name b.name).2 h1;by_cases h2:a.domain=b.domain
   . have e2:=(tw a.domain b.domain).2 h2;have:=wE a.path b.path;simp_all
   . have e2:=fun h=>h2 ((tw a.domain b.domain).1 h)
     have:=wE a.domain b.domain;simp_all
 . have e1:=fun h=>h1 ((tw a.name b.name).1 h)
   have:=wE a.name b.name;simp_all
theorem pA (a:ay):bF a a=false:=by simp[sQ,lt_irrefl]
theorem mw (a b c:ay) (h1:bF a b=true) (h2:bF b c=true):bF a c=true:=by
 rw[sQ]at*;by_cases n1:a.name=b.name
 . by_cases n2:b.name=c.name
   . have n3:a.name=c.name:=n1.trans n2;simp only[n1,n2,n3,ne_eq,Dp,Az]at h1 h2⊢;by_cases d1:a.domain=b.domain
     . by_cases d2:b.domain=c.domain
       . have d3:a.domain=c.domain:=d1.trans d2;simp only[d1,d2,d3,ne_eq,Dp,Az]at h1 h2⊢;exact lt_trans _ _ _ h1 h2
       . simp only[d1,d2,ne_eq,Dp,Be,Az,if_true]at h1 h2⊢;exact h2
     . simp only[d1,ne_eq,Be,if_true]at h1;by_cases d2:b.domain=c.domain
       . rw[<-d2];simp only[d1,ne_eq,Be,if_true];exact h1
       . simp only[d2,ne_eq,Be,if_true]at h2;have h3:=lt_trans _ _ _ h1 h2;have d3:a.domain≠c.domain:=fun e=>by rw[e,lt_irrefl]at h3;cases h3
         simp only[d3,ne_eq,Be,if_true];exact h3
   . simp only[n1,n2,ne_eq,Be,if_true]at h2⊢;exact h2
 . simp only[n1,ne_eq,Be,if_true]at h1;by_cases n2:b.name=c.name
   . rw[<-n2];simp only[n1,ne_eq,Be,if_true];exact h1
   . simp only[n2,ne_eq,Be,if_true]at h2;have h3:=lt_trans _ _ _ h1 h2;have n3:a.name≠c.name:=fun e=>by rw[e,lt_irrefl]at h3;cases h3
     simp only[n3,ne_eq,Be,if_true];exact h3
theorem qG (a b:ay):bF a b=true\/a=b\/bF b a=true:=by
 simp only[sQ];by_cases h1:a.name=b.name
 . by_cases h2:a.domain=b.domain
   . simp only[h1,h2,ne_eq,Dp,Az];rcases ux a.path b.path with h|h|h
     . exact .inl h
     . exact .inr (.inl (by cases a;cases b;simp_all))
     . exact .inr (.inr h)
   . have h2':=Ne.symm h2;simp only[h1,h2,h2',ne_eq,Dp,Be,Az,if_true];rcases ux a.domain b.domain with h|h|h
     . exact .inl h
     . exact absurd h h2
     . exact .inr (.inr h)
 . have h1':=Ne.symm h1;simp only[h1,h1',ne_eq,Be,if_true];rcases ux a.name b.name with h|h|h
   . exact .inl h
   . exact absurd h h1
   . exact .inr (.inr h)
theorem vu (a b:ay) (h:bF a b=true):bF b a=false:=by
 cases hb:bF b a
 . rfl
 . have:=mw a b a h hb;rw[pA]at this
   cases this
end Go.Proofs
namespace Go.Proofs
open Go Go.Am Go.RowKit Go.Sy
section
variable [Inhabited aD]
theorem Tryz.qv:Tryz.tab.fns.get uX=some Tryz.f208:=by kernel_rfl
theorem Qo (a b:List UInt8):run Tryz.tab 200 {fr:=ag.enter Tryz.f208 uX (Tryz.f208.body.getD .skip) [.str a, .str b] .normal,cs:=[],h:=ef}= .ok [(.int .i64 (Extern.BytealgCompare.cmp ⟨a.toArray⟩ ⟨b.toArray⟩),ef)]:=by kernel_rfl
noncomputable def ny:aP:={Y:=Bs×Bs,pre:=fun _=>True,args:=fun y=>[.str y.1, .str y.2],res:=fun y=> .int .i64 (de y.1 y.2)}
theorem Ou:CO uX ny:=by
 refine bO.shut ch fun fn body hfn hb y _ avs Fz hav=>?_
 rw[Tryz.qv]at hfn
 cases hfn;obtain⟨a,b⟩:=y;have hl:avs=[.str a, .str b]:=by
   obtain⟨h1,h2⟩:=hav
   cases avs with
   |nil=>simp[ny]at h1
   | cons u avs=>cases avs with
    |nil=>simp[ny]at h1
    | cons w avs=>cases avs with
     |cons=>simp[ny]at h1
     |nil=>
      have e1:=h2 0 _ u rfl rfl;have e2:=h2 1 _ w rfl rfl;simp only at e1 e2
      cases e1
      cases e2;rfl
 subst hl;refine⟨fun _ _=>rfl,fun v _=>v= .int .i64 (de a b),?_,?_⟩
 . have ho:=Qo a b;rw[hb]at ho;refine(dM.run ch ho).mono fun v h' hm=>?_
   simp only[Ag,BT,DQ,BV]at hm;rw[hm.1,KH]
 . rintro v h' rfl;exact⟨fun _ _=>rfl, .int _ _⟩
end
section
variable [Inhabited aD]
def jU:List aa->Bool
 |x::y::l=>bF x.key y.key&&jU (y::l)
 |_=>true
def eO (l:List aa) (k:ay):List aa:=l.filter fun x=>decide (x.key≠k)
def lP (l:List aa) (d:Bs):List aa:=l.filter fun x=>decide (x.key.domain=d)
def xk:ay:=⟨[],[],[]⟩
def iv:aa:=⟨xk,⟨[],false,false,false,false,0,0,0⟩⟩
def cS (l:List Bs) (d:Bs):Nat:=(l.takeWhile fun x=>lt x d).length
def eU (l:List Bs) (d:Bs):List Bs:=if l[cS l d]? =some d then l else l.take (cS l d)++d::l.drop (cS l d)
def bR (l:List aa):List Bs:=l.foldl (fun a x=>eU a x.key.domain) []
def dx (l:List aa) (x:aa):List aa:=l.filter (fun y=>bF y.key x.key)++x::l.filter (fun y=>bF x.key y.key)
def fa (l:List aa):List aa:=l.foldl dx []
noncomputable def QO:TypeId->Option View:=fun t=>bif Nat.beq t Ty.string then some ⟨Bs,bD⟩else bif Nat.beq t ya then some ⟨aa,aa.enc⟩else none
noncomputable def bU (fS:FuncId->Option aP) (lI:FuncId->Nat->Option aS):gR:={tab:=oL,view:=QO,fS,lI}
def eH (l:List aa):SV:= .aw aa l aa.enc
def pX (l:List aa):SO:= .arr aa l aa.enc ya
def xa (f r:Nat) (A:aS) (a:FuncId->Nat->Option aS):FuncId->Nat->Option aS:=fun g s=>bif Nat.beq g f&&Nat.beq s r then some A else a g s
def x7:aP:={Y:=Int×Int,pre:=fun _=>True,args:=fun y=>[i64 y.1,i64 y.2],res:=fun y=>i64 (eA y.1 y.2)}
def xK:aP:={Y:=ay×ay,pre:=fun _=>True,args:=fun y=>[.agg y.1.enc, .agg y.2.enc],res:=fun y=>i64 (mI y.1 y.2)}
def oG:aP:={Y:=ay×ay,pre:=fun _=>True,args:=fun y=>[.agg y.1.enc, .agg y.2.enc],res:=fun y=> .bool (bF y.1 y.2)}
def nQ (l:List aa):Prop:=l.length<=10000
def kj:aP:={Y:=List aa×ay,pre:=fun y=>nQ y.1,args:=fun y=>[eH y.1, .agg y.2.enc],res:=fun y=>eH (eO y.1 y.2)}
def kg:aP:={Y:=List aa×Bs,pre:=fun y=>nQ y.1,args:=fun y=>[eH y.1, .str y.2],res:=fun y=>eH (lP y.1 y.2)}
def kz (l:List aa) (p:aa->Bool):aS:={α:=Nat,ok:=fun i=>i<=l.length,μ:=fun i=>l.length - i,bG:=[1],bM:=fun i=>[(8,eH l),(9,i64 (Int.ofNat l.length)),(10,i64 i),(5, .own 1)],cK:=fun i=>[(1,pX ((l.take i).filter p))]}
def pB (y:List aa×ay):aS:={α:=Nat,ok:=fun i=>i<=y.1.length,μ:=fun i=>y.1.length - i,bG:=[3],bM:=fun i=>[(0,eH y.1),(5, .own 1),(6,i64 i)],cK:=fun i=>[(1,pX ((y.1.take i).filter fun x=>decide (x.key≠y.2)))]}
def pH (y:List aa×Bs):aS:={α:=Nat,ok:=fun i=>i<=y.1.length,μ:=fun i=>y.1.length - i,bG:=[],bM:=fun i=>[(0,eH y.1),(1, .str y.2),(5, .own 0),(6,i64 i)],cK:=fun i=>[(0,pX ((y.1.take i).filter fun x=>decide (x.key.domain=y.2)))]}
def xu:aP:={Y:=List aa×List aa,pre:=fun y=>nQ y.1/\nQ y.2,args:=fun y=>[eH y.1,eH y.2],res:=fun y=> .bool (decide (y.1=y.2))}
def uc (y:List aa×List aa):aS:={α:=Nat,ok:=fun i=>i<=y.1.length/\y.1.length=y.2.length/\y.1.take i=y.2.take i,μ:=fun i=>y.1.length - i,bG:=[],bM:=fun i=>[(0,eH y.1),(1,eH y.2),(5,i64 i)],cK:=fun _=>[]}
def xv:aP:={Y:=List Bs×List Bs,pre:=fun y=>y.1.length<=10000/\y.2.length<=10000,args:=fun y=>[strs y.1,strs y.2],res:=fun y=> .bool (decide (y.1=y.2))}
def ud (y:List Bs×List Bs):aS:={α:=Nat,ok:=fun i=>i<=y.1.length/\y.1.length=y.2.length/\y.1.take i=y.2.take i,μ:=fun i=>y.1.length - i,bG:=[],bM:=fun i=>[(0,strs y.1),(1,strs y.2),(5,i64 i)],cK:=fun _=>[]}
def xL:aP:={Y:=List aa×aa,pre:=fun y=>nQ y.1,args:=fun y=>[eH y.1, .agg y.2.enc],res:=fun y=>eH (dx y.1 y.2)}
def l3 (y:List aa×aa):aS:={α:=Nat,ok:=fun i=>i<=y.1.length,μ:=fun i=>y.1.length - i,bG:=[3],bM:=fun i=>[(0,eH y.1),(5, .own 1),(6, .own 2),(7,i64 i)],cK:=fun i=>[(1,pX ((y.1.take i).filter fun x=>bF x.key y.2.key)),(2,pX ((y.1.take i).filter fun x=>bF y.2.key x.key))]}
def wX:aP:={Y:=List aa,pre:=fun y=>y.length<=1000,args:=fun y=>[eH y],res:=fun y=>eH (fa y)}
def tW (y:List aa):aS:={α:=Nat,ok:=fun i=>i<=y.length,μ:=fun i=>y.length - i,bG:=[],bM:=fun i=>[(0,eH y),(3,eH (fa (y.take i))),(4,i64 i)],cK:=fun _=>[],eg:=[3]}
def wD:aP:={Y:=List aa,pre:=nQ,args:=fun y=>[eH y],res:=fun y=>strs (bR y)}
def jC (y:List aa):aS:={α:=Nat,ok:=fun i=>i<=y.length,μ:=fun i=>y.length - i,bG:=[],bM:=fun i=>[(0,eH y),(3,strs (bR (y.take i))),(4,i64 i)],cK:=fun _=>[],eg:=[3]}
def tu (y:List aa):aS:={α:=Nat×Nat,ok:=fun x=>∃h:x.1<y.length,x.2<=cS (bR (y.take x.1)) y[x.1].key.domain,μ:=fun x=>(bR (y.take x.1)).length - x.2,bG:=[],bM:=fun x=>[(0,eH y),(3,strs (bR (y.take x.1))),(4,i64 x.1),(5, .str ((y[x.1]?).getD iv).key.domain),(6,i64 x.2)],cK:=fun _=>[],link:=some fun a b=>b.1=a.1}
noncomputable def uC (f:FuncId):Option aP:=bif Nat.beq f uX then some ny else GS f
noncomputable def uD (f:FuncId):Option aP:=bif Nat.beq f oR then some x7 else bif Nat.beq f oS then some ny else uC f
noncomputable def uE (f:FuncId):Option aP:=bif Nat.beq f pb then some xK else uD f
noncomputable def uF (f:FuncId):Option aP:=bif Nat.beq f pa then some oG else bif Nat.beq f pc then some oG else uE f
noncomputable def GU (f:FuncId):Option aP:=uF f
noncomputable def p9 (f:FuncId):Option aP:=bif Nat.beq f oY then some kj else bif Nat.beq f lk then some kj else bif Nat.beq f o6 then some kg else bif Nat.beq f lr then some kg else bif Nat.beq f ly then some xu else bif Nat.beq f lj then some xv else bif Nat.beq f lC then some xL else GU f
noncomputable def xS (f:FuncId):Option aP:=bif Nat.beq f lq then some wX else bif Nat.beq f jv then some wD else p9 f
end
section
variable [Inhabited aD]
theorem Oh:(cP (fun(y:aP.Y x7)=>bU cQ (eD y)) 400 oR)=(∀(y:Int×Int),
 True->
 br (!y.1==y.1)
 (br (!y.2==y.2) (aE 0 (eA y.1 y.2)/\True) (aE (-1) (eA y.1 y.2)/\True))
 (br (!y.2==y.2) (aE 1 (eA y.1 y.2)/\True)
 (br (cH y.1 y.2) (aE (-1) (eA y.1 y.2)/\True)
 (br (cH y.2 y.1) (aE 1 (eA y.1 y.2)/\True)
 (aE 0 (eA y.1 y.2)/\True))))):=by kernel_rfl
theorem Oi:(cP (fun(y:aP.Y ny)=>bU uC (eD y)) 400 oS)=(∀(y:Bs×Bs),
 True->
 ∃(y_1:Bs×Bs),
 y.1=y_1.1/\y.2=y_1.2/\True/\aE (de y_1.1 y_1.2) (de y.1 y.2)/\True):=by kernel_rfl
theorem On:(cP (fun(y:aP.Y xK)=>bU uD (eD y)) 600 pb)=(∀(y:ay×ay),
 True->
 ∃(y_1:Bs×Bs),
 y.1.name=y_1.1/\
 y.2.name=y_1.2/\
 True/\
 ∃(y_2:Bs×Bs),
 y.1.domain=y_2.1/\
 y.2.domain=y_2.2/\
 True/\
 ∃(y_3:Bs×Bs),
 y.1.path=y_3.1/\
 y.2.path=y_3.2/\
 True/\
 br (!de y_1.1 y_1.2==0)
 (aE (de y_1.1 y_1.2) (mI y.1 y.2)/\True)
 (br (!de y_2.1 y_2.2==0)
 (aE (de y_2.1 y_2.2) (mI y.1 y.2)/\True)
 (br (!de y_3.1 y_3.2==0)
 (aE (de y_3.1 y_3.2) (mI y.1 y.2)/\True)
 (aE 0 (mI y.1 y.2)/\True)))):=by kernel_rfl
theorem Py:(cP (fun(y:aP.Y oG)=>bU uE (eD y)) 400 pa)=(∀(y:ay×ay),
 True->
 ∃(y_1:ay×ay),
 y.1.name=y_1.1.name/\
 y.1.domain=y_1.1.domain/\
 y.1.path=y_1.1.path/\
 y.2.name=y_1.2.name/\
 y.2.domain=y_1.2.domain/\
 y.2.path=y_1.2.path/\
 True/\cH (mI y_1.1 y_1.2) 0=bF y.1 y.2/\True):=by kernel_rfl
theorem NB:(cP (fun(y:aP.Y oG)=>bU cQ (eD y)) 400 pc)=(∀(y:ay×ay),
 True->
 br (!y.1.name==y.2.name)
 (Go.Op.bytesLess y.1.name y.2.name=bF y.1 y.2/\True)
 (br (!y.1.domain==y.2.domain)
 (Go.Op.bytesLess y.1.domain y.2.domain=bF y.1 y.2/\True)
 (Go.Op.bytesLess y.1.path y.2.path=bF y.1 y.2/\True))):=by kernel_rfl
theorem KR:(cP (fun(y:aP.Y kj)=>bU cQ (dX mU 3 (kz y.1 fun(x:aa)=>Decidable.decide (x.key≠y.2)))) 600 oY)=(∀(y:List aa×ay),
 y.1.length<=10000->
 (∃(x:Nat),
 x<=y.1.length/\
 (SV.fn 98 [] [SV.ptr (SH.next (St.h {ts:=Fr.of (aP.args kj y) 0,h:={next:=0,os:=[]},log:=[]})) 0]=
 SV.fn 98 []
 [SV.ptr (SH.next (St.h {ts:=Fr.of (aP.args kj y) 0,h:={next:=0,os:=[]},log:=[]})) 0]/\
 SV.aw aa y.1 aa.enc=SV.aw aa y.1 aa.enc/\
 aE (Int.ofNat y.1.length) (Int.ofNat y.1.length)/\aE 0 ↑x/\True/\True)/\
 ((List.filter (fun(x:aa)=>Decidable.decide (x.key≠y.2)) (List.take x y.1)=[]/\
 ∀(x:aa),List.length (aa.enc x)=11)/\
 (y.2.name=y.2.name/\
 y.2.domain=y.2.domain/\y.2.path=y.2.path/\True)/\
 True)/\
 True)/\
 ∀(x:Nat),
 x<=y.1.length->
 br (cH (↑x) (Int.ofNat y.1.length))
 (so y.1[Int.toNat ↑x]? fun(val:aa)=>
 br
 (!(val.key.name==y.2.name&&
 (val.key.domain==y.2.domain&&
 (val.key.path==y.2.path&&true))))
 (∃(x_1:aa),
 (aa.enc x_1)=
 (aa.enc val)/\
 ck
 (Nat.ble
 ((List.length (List.filter (fun(x:aa)=>Decidable.decide (x.key≠y.2)) (List.take x y.1))+
 List.length [x_1])*
 96)
 16777216&&
 Nat.ble
 (List.length (List.filter (fun(x:aa)=>Decidable.decide (x.key≠y.2)) (List.take x y.1))+
 List.length [x_1])
 16777216)
 (ck (bY .i64 (↑x+1))
 (∃(y_1:Nat),
 y_1<=y.1.length/\
 aS.μ (kz y.1 fun(x:aa)=>Decidable.decide (x.key≠y.2)) y_1<
 aS.μ (kz y.1 fun(x:aa)=>Decidable.decide (x.key≠y.2)) x/\
 (SV.fn 98 []
 [SV.ptr
 (SH.next (St.h {ts:=Fr.of (aP.args kj y) 0,h:={next:=0,os:=[]},log:=[]})) 0]=
 SV.fn 98 []
 [SV.ptr
 (SH.next (St.h {ts:=Fr.of (aP.args kj y) 0,h:={next:=0,os:=[]},log:=[]})) 0]/\
 SV.aw aa y.1 aa.enc=SV.aw aa y.1 aa.enc/\
 aE (Int.ofNat y.1.length) (Int.ofNat y.1.length)/\aE (↑x+1) ↑y_1/\True/\True)/\
 (SV.aw aa
 (List.filter (fun(x:aa)=>Decidable.decide (x.key≠y.2)) (List.take x y.1)++[x_1])
 aa.enc=
 SV.aw aa
 (List.filter (fun(x:aa)=>Decidable.decide (x.key≠y.2)) (List.take y_1 y.1))
 aa.enc/\
 (y.2.name=y.2.name/\
 y.2.domain=y.2.domain/\
 y.2.path=y.2.path/\True)/\
 True)/\
 True)))
 (ck (bY .i64 (↑x+1))
 (∃(y_1:Nat),
 y_1<=y.1.length/\
 aS.μ (kz y.1 fun(x:aa)=>Decidable.decide (x.key≠y.2)) y_1<
 aS.μ (kz y.1 fun(x:aa)=>Decidable.decide (x.key≠y.2)) x/\
 (SV.fn 98 []
 [SV.ptr (SH.next (St.h {ts:=Fr.of (aP.args kj y) 0,h:={next:=0,os:=[]},log:=[]}))
 0]=
 SV.fn 98 []
 [SV.ptr (SH.next (St.h {ts:=Fr.of (aP.args kj y) 0,h:={next:=0,os:=[]},log:=[]}))
 0]/\
 SV.aw aa y.1 aa.enc=SV.aw aa y.1 aa.enc/\
 aE (Int.ofNat y.1.length) (Int.ofNat y.1.length)/\aE (↑x+1) ↑y_1/\True/\True)/\
 (SV.aw aa
 (List.filter (fun(x:aa)=>Decidable.decide (x.key≠y.2)) (List.take x y.1))
 aa.enc=
 SV.aw aa
 (List.filter (fun(x:aa)=>Decidable.decide (x.key≠y.2)) (List.take y_1 y.1))
 aa.enc/\
 (y.2.name=y.2.name/\
 y.2.domain=y.2.domain/\
 y.2.path=y.2.path/\True)/\
 True)/\
 True)))
 (SV.aw aa (List.filter (fun(x:aa)=>Decidable.decide (x.key≠y.2)) (List.take x y.1))
 aa.enc=
 SV.aw aa (eO y.1 y.2) aa.enc/\
 True)):=by kernel_rfl
theorem JT:(cP (fun(y:aP.Y kj)=>bU cQ (dX lk 3 (pB y))) 400 lk)=(∀(y:List aa×ay),
 y.1.length<=10000->
 (∃(x:Nat),
 x<=y.1.length/\
 (True/\SV.aw aa y.1 aa.enc=SV.aw aa y.1 aa.enc/\True/\aE 0 ↑x/\True)/\
 (SV.aw (View.X {X:=aa,enc:=aa.enc}) [] (View.enc {X:=aa,enc:=aa.enc})=
 SV.aw aa (List.filter (fun(x:aa)=>Decidable.decide (x.key≠y.2)) (List.take x y.1))
 aa.enc/\
 (y.2.name=y.2.name/\
 y.2.domain=y.2.domain/\y.2.path=y.2.path/\True)/\
 True)/\
 True)/\
 ∀(x:Nat),
 x<=y.1.length->
 br (cH (↑x) (Int.ofNat y.1.length))
 (so y.1[Int.toNat ↑x]? fun(val:aa)=>
 br
 (!(val.key.name==y.2.name&&
 (val.key.domain==y.2.domain&&
 (val.key.path==y.2.path&&true))))
 (so y.1[Int.toNat ↑x]? fun(val:aa)=>
 ∃(x_1:aa),
 (aa.enc x_1)=
 (aa.enc val)/\
 ck
 (Nat.ble
 ((List.length (List.filter (fun(x:aa)=>Decidable.decide (x.key≠y.2)) (List.take x y.1))+
 List.length [x_1])*
 96)
 16777216&&
 Nat.ble
 (List.length (List.filter (fun(x:aa)=>Decidable.decide (x.key≠y.2)) (List.take x y.1))+
 List.length [x_1])
 16777216)
 (ck (bY .i64 (↑x+1))
 (∃(y_1:Nat),
 y_1<=y.1.length/\
 aS.μ (pB y) y_1<aS.μ (pB y) x/\
 (True/\
 SV.aw aa y.1 aa.enc=SV.aw aa y.1 aa.enc/\
 True/\aE (↑x+1) ↑y_1/\True)/\
 (SV.aw aa
 (List.filter (fun(x:aa)=>Decidable.decide (x.key≠y.2)) (List.take x y.1)++[x_1])
 aa.enc=
 SV.aw aa
 (List.filter (fun(x:aa)=>Decidable.decide (x.key≠y.2)) (List.take y_1 y.1))
 aa.enc/\
 (y.2.name=y.2.name/\
 y.2.domain=y.2.domain/\
 y.2.path=y.2.path/\True)/\
 True)/\
 True)))
 (ck (bY .i64 (↑x+1))
 (∃(y_1:Nat),
 y_1<=y.1.length/\
 aS.μ (pB y) y_1<aS.μ (pB y) x/\
 (True/\
 SV.aw aa y.1 aa.enc=SV.aw aa y.1 aa.enc/\
 True/\aE (↑x+1) ↑y_1/\True)/\
 (SV.aw aa
 (List.filter (fun(x:aa)=>Decidable.decide (x.key≠y.2)) (List.take x y.1))
 aa.enc=
 SV.aw aa
 (List.filter (fun(x:aa)=>Decidable.decide (x.key≠y.2)) (List.take y_1 y.1))
 aa.enc/\
 (y.2.name=y.2.name/\
 y.2.domain=y.2.domain/\
 y.2.path=y.2.path/\True)/\
 True)/\
 True)))
 (SV.aw aa (List.filter (fun(x:aa)=>Decidable.decide (x.key≠y.2)) (List.take x y.1))
 aa.enc=
 SV.aw aa (eO y.1 y.2) aa.enc/\
 True)):=by kernel_rfl
theorem Mx:(cP (fun(y:aP.Y kg)=>bU cQ (dX mU 3 (kz y.1 fun(x:aa)=>Decidable.decide (x.key.domain=y.2)))) 600 o6)=(∀(y:List aa×Bs),
 y.1.length<=10000->
 (∃(x:Nat),
 x<=y.1.length/\
 (SV.fn 99 [] [SV.ptr (SH.next (St.h {ts:=Fr.of (aP.args kg y) 0,h:={next:=0,os:=[]},log:=[]})) 0]=
 SV.fn 99 []
 [SV.ptr (SH.next (St.h {ts:=Fr.of (aP.args kg y) 0,h:={next:=0,os:=[]},log:=[]})) 0]/\
 SV.aw aa y.1 aa.enc=SV.aw aa y.1 aa.enc/\
 aE (Int.ofNat y.1.length) (Int.ofNat y.1.length)/\aE 0 ↑x/\True/\True)/\
 ((List.filter (fun(x:aa)=>Decidable.decide (x.key.domain=y.2)) (List.take x y.1)=[]/\
 ∀(x:aa),List.length (aa.enc x)=11)/\
 (y.2=y.2/\True)/\True)/\
 True)/\
 ∀(x:Nat),
 x<=y.1.length->
 br (cH (↑x) (Int.ofNat y.1.length))
 (so y.1[Int.toNat ↑x]? fun(val:aa)=>
 br (val.key.domain==y.2)
 (∃(x_1:aa),
 (aa.enc x_1)=
 (aa.enc val)/\
 ck
 (Nat.ble
 ((List.length
 (List.filter (fun(x:aa)=>Decidable.decide (x.key.domain=y.2))
 (List.take x y.1))+
 List.length [x_1])*
 96)
 16777216&&
 Nat.ble
 (List.length
 (List.filter (fun(x:aa)=>Decidable.decide (x.key.domain=y.2))
 (List.take x y.1))+
 List.length [x_1])
 16777216)
 (ck (bY .i64 (↑x+1))
 (∃(y_1:Nat),
 y_1<=y.1.length/\
 aS.μ (kz y.1 fun(x:aa)=>Decidable.decide (x.key.domain=y.2))
 y_1<
 aS.μ
 (kz y.1 fun(x:aa)=>Decidable.decide (x.key.domain=y.2)) x/\
 (SV.fn 99 []
 [SV.ptr
 (SH.next (St.h {ts:=Fr.of (aP.args kg y) 0,h:={next:=0,os:=[]},log:=[]})) 0]=
 SV.fn 99 []
 [SV.ptr
 (SH.next (St.h {ts:=Fr.of (aP.args kg y) 0,h:={next:=0,os:=[]},log:=[]})) 0]/\
 SV.aw aa y.1 aa.enc=SV.aw aa y.1 aa.enc/\
 aE (Int.ofNat y.1.length) (Int.ofNat y.1.length)/\aE (↑x+1) ↑y_1/\True/\True)/\
 (SV.aw aa
 (List.filter (fun(x:aa)=>Decidable.decide (x.key.domain=y.2))
 (List.take x y.1)++
 [x_1])
 aa.enc=
 SV.aw aa
 (List.filter (fun(x:aa)=>Decidable.decide (x.key.domain=y.2))
 (List.take y_1 y.1))
 aa.enc/\
 (y.2=y.2/\True)/\True)/\
 True)))
 (ck (bY .i64 (↑x+1))
 (∃(y_1:Nat),
 y_1<=y.1.length/\
 aS.μ (kz y.1 fun(x:aa)=>Decidable.decide (x.key.domain=y.2)) y_1<
 aS.μ (kz y.1 fun(x:aa)=>Decidable.decide (x.key.domain=y.2)) x/\
 (SV.fn 99 []
 [SV.ptr (SH.next (St.h {ts:=Fr.of (aP.args kg y) 0,h:={next:=0,os:=[]},log:=[]}))
 0]=
 SV.fn 99 []
 [SV.ptr (SH.next (St.h {ts:=Fr.of (aP.args kg y) 0,h:={next:=0,os:=[]},log:=[]}))
 0]/\
 SV.aw aa y.1 aa.enc=SV.aw aa y.1 aa.enc/\
 aE (Int.ofNat y.1.length) (Int.ofNat y.1.length)/\aE (↑x+1) ↑y_1/\True/\True)/\
 (SV.aw aa
 (List.filter (fun(x:aa)=>Decidable.decide (x.key.domain=y.2))
 (List.take x y.1))
 aa.enc=
 SV.aw aa
 (List.filter (fun(x:aa)=>Decidable.decide (x.key.domain=y.2))
 (List.take y_1 y.1))
 aa.enc/\
 (y.2=y.2/\True)/\True)/\
 True)))
 (SV.aw aa
 (List.filter (fun(x:aa)=>Decidable.decide (x.key.domain=y.2)) (List.take x y.1))
 aa.enc=
 SV.aw aa (lP y.1 y.2) aa.enc/\
 True)):=by kernel_rfl
theorem KP:(cP (fun(y:aP.Y kg)=>bU cQ (dX lr 3 (pH y))) 400 lr)=(∀(y:List aa×Bs),
 y.1.length<=10000->
 (∃(x:Nat),
 x<=y.1.length/\
 (SV.aw aa y.1 aa.enc=SV.aw aa y.1 aa.enc/\
 y.2=y.2/\True/\aE 0 ↑x/\True)/\
 (SV.aw (View.X {X:=aa,enc:=aa.enc}) [] (View.enc {X:=aa,enc:=aa.enc})=
 SV.aw aa
 (List.filter (fun(x:aa)=>Decidable.decide (x.key.domain=y.2)) (List.take x y.1))
 aa.enc/\
 True)/\
 True)/\
 ∀(x:Nat),
 x<=y.1.length->
 br (cH (↑x) (Int.ofNat y.1.length))
 (so y.1[Int.toNat ↑x]? fun(val:aa)=>
 br (val.key.domain==y.2)
 (so y.1[Int.toNat ↑x]? fun(val:aa)=>
 ∃(x_1:aa),
 (aa.enc x_1)=
 (aa.enc val)/\
 ck
 (Nat.ble
 ((List.length
 (List.filter (fun(x:aa)=>Decidable.decide (x.key.domain=y.2))
 (List.take x y.1))+
 List.length [x_1])*
 96)
 16777216&&
 Nat.ble
 (List.length
 (List.filter (fun(x:aa)=>Decidable.decide (x.key.domain=y.2))
 (List.take x y.1))+
 List.length [x_1])
 16777216)
 (ck (bY .i64 (↑x+1))
 (∃(y_1:Nat),
 y_1<=y.1.length/\
 aS.μ (pH y) y_1<aS.μ (pH y) x/\
 (SV.aw aa y.1 aa.enc=SV.aw aa y.1 aa.enc/\
 y.2=y.2/\True/\aE (↑x+1) ↑y_1/\True)/\
 (SV.aw aa
 (List.filter (fun(x:aa)=>Decidable.decide (x.key.domain=y.2))
 (List.take x y.1)++
 [x_1])
 aa.enc=
 SV.aw aa
 (List.filter (fun(x:aa)=>Decidable.decide (x.key.domain=y.2))
 (List.take y_1 y.1))
 aa.enc/\
 True)/\
 True)))
 (ck (bY .i64 (↑x+1))
 (∃(y_1:Nat),
 y_1<=y.1.length/\
 aS.μ (pH y) y_1<aS.μ (pH y) x/\
 (SV.aw aa y.1 aa.enc=SV.aw aa y.1 aa.enc/\
 y.2=y.2/\True/\aE (↑x+1) ↑y_1/\True)/\
 (SV.aw aa
 (List.filter (fun(x:aa)=>Decidable.decide (x.key.domain=y.2))
 (List.take x y.1))
 aa.enc=
 SV.aw aa
 (List.filter (fun(x:aa)=>Decidable.decide (x.key.domain=y.2))
 (List.take y_1 y.1))
 aa.enc/\
 True)/\
 True)))
 (SV.aw aa
 (List.filter (fun(x:aa)=>Decidable.decide (x.key.domain=y.2)) (List.take x y.1))
 aa.enc=
 SV.aw aa (lP y.1 y.2) aa.enc/\
 True)):=by kernel_rfl
theorem NC:(cP (fun(y:aP.Y xu)=>bU cQ (dX ly 4 (uc y))) 400 ly)=(∀(y:List aa×List aa),
 y.1.length<=10000/\y.2.length<=10000->
 br (!Int.ofNat y.1.length==Int.ofNat y.2.length) (false=Decidable.decide (y.1=y.2)/\True)
 ((∃(x:Nat),
 (x<=y.1.length/\y.1.length=y.2.length/\List.take x y.1=List.take x y.2)/\
 (SV.aw aa y.1 aa.enc=SV.aw aa y.1 aa.enc/\
 SV.aw aa y.2 aa.enc=SV.aw aa y.2 aa.enc/\aE 0 ↑x/\True)/\
 True/\True)/\
 ∀(x:Nat),
 x<=y.1.length/\y.1.length=y.2.length/\List.take x y.1=List.take x y.2->
 br (cH (↑x) (Int.ofNat y.1.length))
 (so y.1[Int.toNat ↑x]? fun(val:aa)=>
 so y.2[Int.toNat ↑x]? fun(val_1:aa)=>
 br
 (!(val.key.name==val_1.key.name&&
 (val.key.domain==val_1.key.domain&&
 (val.key.path==val_1.key.path&&true))&&
 (val.ab.value==val_1.ab.value&&
 (val.ab.aH==val_1.ab.aH&&
 (val.ab.aZ==val_1.ab.aZ&&
 (val.ab.aI==val_1.ab.aI&&
 (val.ab.persistent==val_1.ab.persistent&&
 (val.ab.aW==val_1.ab.aW&&
 (val.ab.aG==val_1.ab.aG&&
 (val.ab.access==val_1.ab.access&&true)))))))&&
 true)))
 (false=Decidable.decide (y.1=y.2)/\True)
 (ck (bY .i64 (↑x+1))
 (∃(y_1:Nat),
 (y_1<=y.1.length/\y.1.length=y.2.length/\List.take y_1 y.1=List.take y_1 y.2)/\
 aS.μ (uc y) y_1<aS.μ (uc y) x/\
 (SV.aw aa y.1 aa.enc=SV.aw aa y.1 aa.enc/\
 SV.aw aa y.2 aa.enc=SV.aw aa y.2 aa.enc/\
 aE (↑x+1) ↑y_1/\True)/\
 True/\True)))
 (true=Decidable.decide (y.1=y.2)/\True))):=by kernel_rfl
theorem ND:(cP (fun(y:aP.Y xv)=>bU cQ (dX lj 4 (ud y))) 400 lj)=(∀(y:List Bs×List Bs),
 y.1.length<=10000/\y.2.length<=10000->
 br (!Int.ofNat y.1.length==Int.ofNat y.2.length) (false=Decidable.decide (y.1=y.2)/\True)
 ((∃(x:Nat),
 (x<=y.1.length/\y.1.length=y.2.length/\List.take x y.1=List.take x y.2)/\
 (SV.aw Bs y.1 bD=SV.aw Bs y.1 bD/\
 SV.aw Bs y.2 bD=SV.aw Bs y.2 bD/\aE 0 ↑x/\True)/\
 True/\True)/\
 ∀(x:Nat),
 x<=y.1.length/\y.1.length=y.2.length/\List.take x y.1=List.take x y.2->
 br (cH (↑x) (Int.ofNat y.1.length))
 (so y.1[Int.toNat ↑x]? fun(val:Bs)=>
 so y.2[Int.toNat ↑x]? fun(val_1:Bs)=>
 br (!val==val_1) (false=Decidable.decide (y.1=y.2)/\True)
 (ck (bY .i64 (↑x+1))
 (∃(y_1:Nat),
 (y_1<=y.1.length/\y.1.length=y.2.length/\List.take y_1 y.1=List.take y_1 y.2)/\
 aS.μ (ud y) y_1<aS.μ (ud y) x/\
 (SV.aw Bs y.1 bD=SV.aw Bs y.1 bD/\
 SV.aw Bs y.2 bD=SV.aw Bs y.2 bD/\aE (↑x+1) ↑y_1/\True)/\
 True/\True)))
 (true=Decidable.decide (y.1=y.2)/\True))):=by kernel_rfl
theorem PA:(cP (fun(y:aP.Y xL)=>bU uF (dX lC 4 (l3 y))) 600 lC)=(∀(y:List aa×aa),
 y.1.length<=10000->
 (∃(x:Nat),
 x<=y.1.length/\
 (True/\
 SV.aw aa y.1 aa.enc=SV.aw aa y.1 aa.enc/\True/\True/\aE 0 ↑x/\True)/\
 (SV.aw (View.X {X:=aa,enc:=aa.enc}) [] (View.enc {X:=aa,enc:=aa.enc})=
 SV.aw aa
 (List.filter (fun(x:aa)=>bF y.2.key x.key) (List.take x y.1))
 aa.enc/\
 SV.aw (View.X {X:=aa,enc:=aa.enc}) [] (View.enc {X:=aa,enc:=aa.enc})=
 SV.aw aa
 (List.filter (fun(x:aa)=>bF x.key y.2.key) (List.take x y.1))
 aa.enc/\
 (y.2.key.name=y.2.key.name/\
 y.2.key.domain=y.2.key.domain/\
 y.2.key.path=y.2.key.path/\
 y.2.ab.value=y.2.ab.value/\
 y.2.ab.aH=y.2.ab.aH/\
 y.2.ab.aZ=y.2.ab.aZ/\
 y.2.ab.aI=y.2.ab.aI/\
 y.2.ab.persistent=y.2.ab.persistent/\
 aE y.2.ab.aW y.2.ab.aW/\
 aE y.2.ab.aG
 y.2.ab.aG/\
 aE y.2.ab.access
 y.2.ab.access/\
 True)/\
 True)/\
 True)/\
 ∀(x:Nat),
 x<=y.1.length->
 br (cH (↑x) (Int.ofNat y.1.length))
 (so y.1[Int.toNat ↑x]? fun(val:aa)=>
 ∃(y_1:ay×ay),
 val.key.name=y_1.1.name/\
 val.key.domain=y_1.1.domain/\
 val.key.path=y_1.1.path/\
 y.2.key.name=y_1.2.name/\
 y.2.key.domain=y_1.2.domain/\
 y.2.key.path=y_1.2.path/\
 True/\
 br (bF y_1.1 y_1.2)
 (so y.1[Int.toNat ↑x]? fun(val:aa)=>
 ∃(x_1:aa),
 (aa.enc x_1)=
 (aa.enc val)/\
 ck
 (Nat.ble
 ((List.length
 (List.filter (fun(x:aa)=>bF x.key y.2.key)
 (List.take x y.1))+
 List.length [x_1])*
 96)
 16777216&&
 Nat.ble
 (List.length
 (List.filter (fun(x:aa)=>bF x.key y.2.key)
 (List.take x y.1))+
 List.length [x_1])
 16777216)
 (so y.1[Int.toNat ↑x]? fun(val:aa)=>
 ∃(y_2:ay×ay),
 y.2.key.name=y_2.1.name/\
 y.2.key.domain=y_2.1.domain/\
 y.2.key.path=y_2.1.path/\
 val.key.name=y_2.2.name/\
 val.key.domain=y_2.2.domain/\
 val.key.path=y_2.2.path/\
 True/\
 br (bF y_2.1 y_2.2)
 (so y.1[Int.toNat ↑x]? fun(val:aa)=>
 ∃(x_2:aa),
 (aa.enc x_2)=
 (aa.enc val)/\
 ck
 (Nat.ble
 ((List.length
 (List.filter
 (fun(x:aa)=>
 bF y.2.key x.key)
 (List.take x y.1))+
 List.length [x_2])*
 96)
 16777216&&
 Nat.ble
 (List.length
 (List.filter
 (fun(x:aa)=>
 bF y.2.key x.key)
 (List.take x y.1))+
 List.length [x_2])
 16777216)
 (ck (bY .i64 (↑x+1))
 (∃(y_3:Nat),
 y_3<=y.1.length/\
 aS.μ (l3 y) y_3<aS.μ (l3 y) x/\
 (True/\
 SV.aw aa y.1 aa.enc=
 SV.aw aa y.1 aa.enc/\
 True/\True/\aE (↑x+1) ↑y_3/\True)/\
 (SV.aw aa
 (List.filter
 (fun(x:aa)=>
 bF y.2.key x.key)
 (List.take x y.1)++
 [x_2])
 aa.enc=
 SV.aw aa
 (List.filter
 (fun(x:aa)=>
 bF y.2.key x.key)
 (List.take y_3 y.1))
 aa.enc/\
 SV.aw aa
 (List.filter
 (fun(x:aa)=>
 bF x.key y.2.key)
 (List.take x y.1)++
 [x_1])
 aa.enc=
 SV.aw aa
 (List.filter
 (fun(x:aa)=>
 bF x.key y.2.key)
 (List.take y_3 y.1))
 aa.enc/\
 (y.2.key.name=
 y.2.key.name/\
 y.2.key.domain=
 y.2.key.domain/\
 y.2.key.path=
 y.2.key.path/\
 y.2.ab.value=
 y.2.ab.value/\
 y.2.ab.aH=
 y.2.ab.aH/\
 y.2.ab.aZ=
 y.2.ab.aZ/\
 y.2.ab.aI=
 y.2.ab.aI/\
 y.2.ab.persistent=
 y.2.ab.persistent/\
 aE y.2.ab.aW
 y.2.ab.aW/\
 aE y.2.ab.aG
 y.2.ab.aG/\
 aE y.2.ab.access
 y.2.ab.access/\
 True)/\
 True)/\
 True)))
 (ck (bY .i64 (↑x+1))
 (∃(y_3:Nat),
 y_3<=y.1.length/\
 aS.μ (l3 y) y_3<aS.μ (l3 y) x/\
 (True/\
 SV.aw aa y.1 aa.enc=
 SV.aw aa y.1 aa.enc/\
 True/\True/\aE (↑x+1) ↑y_3/\True)/\
 (SV.aw aa
 (List.filter
 (fun(x:aa)=>
 bF y.2.key x.key)
 (List.take x y.1))
 aa.enc=
 SV.aw aa
 (List.filter
 (fun(x:aa)=>
 bF y.2.key x.key)
 (List.take y_3 y.1))
 aa.enc/\
 SV.aw aa
 (List.filter
 (fun(x:aa)=>
 bF x.key y.2.key)
 (List.take x y.1)++
 [x_1])
 aa.enc=
 SV.aw aa
 (List.filter
 (fun(x:aa)=>
 bF x.key y.2.key)
 (List.take y_3 y.1))
 aa.enc/\
 (y.2.key.name=
 y.2.key.name/\
 y.2.key.domain=
 y.2.key.domain/\
 y.2.key.path=
 y.2.key.path/\
 y.2.ab.value=
 y.2.ab.value/\
 y.2.ab.aH=
 y.2.ab.aH/\
 y.2.ab.aZ=
 y.2.ab.aZ/\
 y.2.ab.aI=
 y.2.ab.aI/\
 y.2.ab.persistent=
 y.2.ab.persistent/\
 aE y.2.ab.aW
 y.2.ab.aW/\
 aE y.2.ab.aG
 y.2.ab.aG/\
 aE y.2.ab.access
 y.2.ab.access/\
 True)/\
 True)/\
 True))))
 (so y.1[Int.toNat ↑x]? fun(val:aa)=>
 ∃(y_2:ay×ay),
 y.2.key.name=y_2.1.name/\
 y.2.key.domain=y_2.1.domain/\
 y.2.key.path=y_2.1.path/\
 val.key.name=y_2.2.name/\
 val.key.domain=y_2.2.domain/\
 val.key.path=y_2.2.path/\
 True/\
 br (bF y_2.1 y_2.2)
 (so y.1[Int.toNat ↑x]? fun(val:aa)=>
 ∃(x_1:aa),
 (aa.enc x_1)=
 (aa.enc val)/\
 ck
 (Nat.ble
 ((List.length
 (List.filter
 (fun(x:aa)=>bF y.2.key x.key)
 (List.take x y.1))+
 List.length [x_1])*
 96)
 16777216&&
 Nat.ble
 (List.length
 (List.filter
 (fun(x:aa)=>bF y.2.key x.key)
 (List.take x y.1))+
 List.length [x_1])
 16777216)
 (ck (bY .i64 (↑x+1))
 (∃(y_3:Nat),
 y_3<=y.1.length/\
 aS.μ (l3 y) y_3<aS.μ (l3 y) x/\
 (True/\
 SV.aw aa y.1 aa.enc=
 SV.aw aa y.1 aa.enc/\
 True/\True/\aE (↑x+1) ↑y_3/\True)/\
 (SV.aw aa
 (List.filter
 (fun(x:aa)=>
 bF y.2.key x.key)
 (List.take x y.1)++
 [x_1])
 aa.enc=
 SV.aw aa
 (List.filter
 (fun(x:aa)=>
 bF y.2.key x.key)
 (List.take y_3 y.1))
 aa.enc/\
 SV.aw aa
 (List.filter
 (fun(x:aa)=>
 bF x.key y.2.key)
 (List.take x y.1))
 aa.enc=
 SV.aw aa
 (List.filter
 (fun(x:aa)=>
 bF x.key y.2.key)
 (List.take y_3 y.1))
 aa.enc/\
 (y.2.key.name=
 y.2.key.name/\
 y.2.key.domain=
 y.2.key.domain/\
 y.2.key.path=
 y.2.key.path/\
 y.2.ab.value=
 y.2.ab.value/\
 y.2.ab.aH=
 y.2.ab.aH/\
 y.2.ab.aZ=
 y.2.ab.aZ/\
 y.2.ab.aI=
 y.2.ab.aI/\
 y.2.ab.persistent=
 y.2.ab.persistent/\
 aE y.2.ab.aW
 y.2.ab.aW/\
 aE y.2.ab.aG
 y.2.ab.aG/\
 aE y.2.ab.access
 y.2.ab.access/\
 True)/\
 True)/\
 True)))
 (ck (bY .i64 (↑x+1))
 (∃(y_3:Nat),
 y_3<=y.1.length/\
 aS.μ (l3 y) y_3<aS.μ (l3 y) x/\
 (True/\
 SV.aw aa y.1 aa.enc=
 SV.aw aa y.1 aa.enc/\
 True/\True/\aE (↑x+1) ↑y_3/\True)/\
 (SV.aw aa
 (List.filter
 (fun(x:aa)=>bF y.2.key x.key)
 (List.take x y.1))
 aa.enc=
 SV.aw aa
 (List.filter
 (fun(x:aa)=>bF y.2.key x.key)
 (List.take y_3 y.1))
 aa.enc/\
 SV.aw aa
 (List.filter
 (fun(x:aa)=>
 bF x.key y.2.key)
 (List.take x y.1))
 aa.enc=
 SV.aw aa
 (List.filter
 (fun(x:aa)=>
 bF x.key y.2.key)
 (List.take y_3 y.1))
 aa.enc/\
 (y.2.key.name=
 y.2.key.name/\
 y.2.key.domain=
 y.2.key.domain/\
 y.2.key.path=
 y.2.key.path/\
 y.2.ab.value=
 y.2.ab.value/\
 y.2.ab.aH=
 y.2.ab.aH/\
 y.2.ab.aZ=
 y.2.ab.aZ/\
 y.2.ab.aI=
 y.2.ab.aI/\
 y.2.ab.persistent=
 y.2.ab.persistent/\
 aE y.2.ab.aW
 y.2.ab.aW/\
 aE y.2.ab.aG
 y.2.ab.aG/\
 aE y.2.ab.access
 y.2.ab.access/\
 True)/\
 True)/\
 True))))
 (∃(x_1:aa),
 (aa.enc x_1)=
 (aa.enc y.2)/\
 ck
 (Nat.ble
 ((List.length
 (List.filter (fun(x:aa)=>bF x.key y.2.key) (List.take x y.1))+
 List.length [x_1])*
 96)
 16777216&&
 Nat.ble
 (List.length
 (List.filter (fun(x:aa)=>bF x.key y.2.key) (List.take x y.1))+
 List.length [x_1])
 16777216)
 ((∀(x:aa),List.length (aa.enc x)=11/\List.all (aa.enc x) ia=true)/\
 ∃(M':List aa),
 SV.aw aa
 (List.filter (fun(x:aa)=>bF y.2.key x.key) (List.take x y.1))
 aa.enc=
 SV.aw aa M' aa.enc/\
 ck
 (Nat.ble
 ((List.length
 (List.filter (fun(x:aa)=>bF x.key y.2.key)
 (List.take x y.1)++
 [x_1])+
 M'.length)*
 96)
 16777216&&
 Nat.ble
 (List.length
 (List.filter (fun(x:aa)=>bF x.key y.2.key)
 (List.take x y.1)++
 [x_1])+
 M'.length)
 16777216)
 (SV.aw aa
 (List.filter (fun(x:aa)=>bF x.key y.2.key)
 (List.take x y.1)++
 [x_1]++
 M')
 aa.enc=
 SV.aw aa (dx y.1 y.2) aa.enc/\
 True)))):=by kernel_rfl
theorem Mw:(cP (fun(y:aP.Y wX)=>bU p9 (dX lq 3 (tW y))) 400 lq)=(∀(y:List aa),
 y.length<=1000->
 (∃(x:Nat),
 x<=y.length/\
 (SV.aw aa y aa.enc=SV.aw aa y aa.enc/\
 SV.aw (View.X {X:=aa,enc:=aa.enc}) [] (View.enc {X:=aa,enc:=aa.enc})=
 SV.aw aa (fa (List.take x y)) aa.enc/\
 aE 0 ↑x/\True)/\
 (True/\True)/\True)/\
 ∀(x:Nat),
 x<=y.length->
 br (cH (↑x) (Int.ofNat y.length))
 (so y[Int.toNat ↑x]? fun(val:aa)=>
 ∃(y_1:List aa×aa),
 SV.aw aa (fa (List.take x y)) aa.enc=SV.aw aa y_1.1 aa.enc/\
 val.key.name=y_1.2.key.name/\
 val.key.domain=y_1.2.key.domain/\
 val.key.path=y_1.2.key.path/\
 val.ab.value=y_1.2.ab.value/\
 val.ab.aH=y_1.2.ab.aH/\
 val.ab.aZ=y_1.2.ab.aZ/\
 val.ab.aI=y_1.2.ab.aI/\
 val.ab.persistent=y_1.2.ab.persistent/\
 aE val.ab.aW y_1.2.ab.aW/\
 aE val.ab.aG y_1.2.ab.aG/\
 aE val.ab.access y_1.2.ab.access/\
 y_1.1.length<=10000/\
 ck (bY .i64 (↑x+1))
 (∃(y_2:Nat),
 y_2<=y.length/\
 aS.μ (tW y) y_2<aS.μ (tW y) x/\
 (SV.aw aa y aa.enc=SV.aw aa y aa.enc/\
 SV.aw aa (dx y_1.1 y_1.2) aa.enc=
 SV.aw aa (fa (List.take y_2 y)) aa.enc/\
 aE (↑x+1) ↑y_2/\True)/\
 (True/\True)/\True))
 (SV.aw aa (fa (List.take x y)) aa.enc=SV.aw aa (fa y) aa.enc/\True)):=by kernel_rfl
theorem KQ:(cP (fun(y:aP.Y wD)=>bU p9 (xa jv 7 (tu y) (dX jv 3 (jC y)))) 600 jv)=(∀(y:List aa),
 y.length<=10000->
 (∃(x:Nat),
 x<=y.length/\
 (SV.aw aa y aa.enc=SV.aw aa y aa.enc/\
 SV.aw (View.X {X:=Bs,enc:=bD}) [] (View.enc {X:=Bs,enc:=bD})=
 SV.aw Bs (bR (List.take x y)) bD/\
 aE 0 ↑x/\True)/\
 (True/\True)/\True)/\
 ∀(x:Nat),
 x<=y.length->
 br (cH (↑x) (Int.ofNat y.length))
 (so y[Int.toNat ↑x]? fun(val:aa)=>
 ∃(x0:Nat×Nat),
 (∃(x_1:Nat×Nat),
 ((∃(h:x_1.1<y.length),
 x_1.2<=cS (bR (List.take x_1.1 y)) (ay.domain (aa.key y[x_1.1])))/\
 x_1.1=x0.1)/\
 (SV.aw aa y aa.enc=SV.aw aa y aa.enc/\
 SV.aw Bs (bR (List.take x y)) bD=
 SV.aw Bs (bR (List.take x_1.1 y)) bD/\
 aE ↑x ↑x_1.1/\
 val.key.domain=ay.domain (aa.key (Option.getD y[x_1.1]? iv))/\
 aE 0 ↑x_1.2/\True)/\
 (True/\True)/\True)/\
 ∀(x_1:Nat×Nat),
 (∃(h:x_1.1<y.length),
 x_1.2<=cS (bR (List.take x_1.1 y)) (ay.domain (aa.key y[x_1.1])))/\
 x_1.1=x0.1->
 br (cH (↑x_1.2) (Int.ofNat (List.length (bR (List.take x_1.1 y)))))
 (so (bR (List.take x_1.1 y))[Int.toNat ↑x_1.2]? fun(val:Bs)=>
 br (Go.Op.bytesLess val (ay.domain (aa.key (Option.getD y[x_1.1]? iv))))
 (ck (bY .i64 (↑x_1.2+1))
 (∃(y_1:Nat×Nat),
 ((∃(h:y_1.1<y.length),
 y_1.2<=
 cS (bR (List.take y_1.1 y)) (ay.domain (aa.key y[y_1.1])))/\
 y_1.1=x0.1)/\
 aS.μ (aS.when (tu y) (fun(a b:Nat×Nat)=>b.1=a.1) x0) y_1<
 aS.μ (aS.when (tu y) (fun(a b:Nat×Nat)=>b.1=a.1) x0) x_1/\
 (SV.aw aa y aa.enc=SV.aw aa y aa.enc/\
 SV.aw Bs (bR (List.take x_1.1 y)) bD=
 SV.aw Bs (bR (List.take y_1.1 y)) bD/\
 aE ↑x_1.1 ↑y_1.1/\
 ay.domain (aa.key (Option.getD y[x_1.1]? iv))=
 ay.domain (aa.key (Option.getD y[y_1.1]? iv))/\
 aE (↑x_1.2+1) ↑y_1.2/\True)/\
 (True/\True)/\True))
 (br ((↑x_1.2:Int)==Int.ofNat (List.length (bR (List.take x_1.1 y))))
 ((∀(x:Bs),List.length (bD x)=1)/\
 ck (Nat.ble (Int.toNat ↑x_1.2) (List.length (bR (List.take x_1.1 y))))
 ((∀(x:Bs),List.length (bD x)=1)/\
 ck (Nat.ble (Int.toNat ↑x_1.2) (List.length (bR (List.take x_1.1 y))))
 ((∀(x:Bs),List.length (bD x)=1/\List.all (bD x) ia=true)/\
 ∃(M':List (View.X {X:=Bs,enc:=bD})),
 SV.aw Bs (List.take (Int.toNat ↑x_1.2) (bR (List.take x_1.1 y))) bD=
 SV.aw (View.X {X:=Bs,enc:=bD}) M'
 (View.enc {X:=Bs,enc:=bD})/\
 ck (Nat.ble ((List.length ([]:List Nat)+M'.length)*16) 16777216&&Nat.ble (List.length ([]:List Nat)+M'.length) 16777216)
 (∃(x_2:View.X {X:=Bs,enc:=bD}),
 [SV.str x_2]=
 [SV.str (ay.domain (aa.key (Option.getD y[x_1.1]? iv)))]/\
 ck
 (Nat.ble ((List.length ([]++M')+List.length [x_2])*16) 16777216&&
 Nat.ble (List.length ([]++M')+List.length [x_2]) 16777216)
 ((∀(x:Bs),List.length (bD x)=1/\List.all (bD x) ia=true)/\
 ∃(M'_1:List (View.X {X:=Bs,enc:=bD})),
 SV.aw Bs (List.drop (Int.toNat ↑x_1.2) (bR (List.take x_1.1 y)))
 bD=
 SV.aw (View.X {X:=Bs,enc:=bD}) M'_1
 (View.enc {X:=Bs,enc:=bD})/\
 ck
 (Nat.ble ((List.length ([]++M'++[x_2])+M'_1.length)*16) 16777216&&
 Nat.ble (List.length ([]++M'++[x_2])+M'_1.length) 16777216)
 (ck (bY .i64 (↑x_1.1+1))
 (∃(y_1:Nat),
 y_1<=y.length/\
 aS.μ (jC y) y_1<aS.μ (jC y) x/\
 (SV.aw aa y aa.enc=SV.aw aa y aa.enc/\
 SV.aw (View.X {X:=Bs,enc:=bD}) ([]++M'++[x_2]++M'_1)
 (View.enc {X:=Bs,enc:=bD})=
 SV.aw Bs (bR (List.take y_1 y)) bD/\
 aE (↑x_1.1+1) ↑y_1/\True)/\
 (True/\True)/\True)))))))
 (so (bR (List.take x_1.1 y))[Int.toNat ↑x_1.2]? fun(val:Bs)=>
 br (!val==ay.domain (aa.key (Option.getD y[x_1.1]? iv)))
 ((∀(x:Bs),List.length (bD x)=1)/\
 ck (Nat.ble (Int.toNat ↑x_1.2) (List.length (bR (List.take x_1.1 y))))
 ((∀(x:Bs),List.length (bD x)=1)/\
 ck (Nat.ble (Int.toNat ↑x_1.2) (List.length (bR (List.take x_1.1 y))))
 ((∀(x:Bs),List.length (bD x)=1/\List.all (bD x) ia=true)/\
 ∃(M':List (View.X {X:=Bs,enc:=bD})),
 SV.aw Bs (List.take (Int.toNat ↑x_1.2) (bR (List.take x_1.1 y))) bD=
 SV.aw (View.X {X:=Bs,enc:=bD}) M'
 (View.enc {X:=Bs,enc:=bD})/\
 ck (Nat.ble ((List.length ([]:List Nat)+M'.length)*16) 16777216&&Nat.ble (List.length ([]:List Nat)+M'.length) 16777216)
 (∃(x_2:View.X {X:=Bs,enc:=bD}),
 [SV.str x_2]=
 [SV.str (ay.domain (aa.key (Option.getD y[x_1.1]? iv)))]/\
 ck
 (Nat.ble ((List.length ([]++M')+List.length [x_2])*16) 16777216&&
 Nat.ble (List.length ([]++M')+List.length [x_2]) 16777216)
 ((∀(x:Bs),List.length (bD x)=1/\List.all (bD x) ia=true)/\
 ∃(M'_1:List (View.X {X:=Bs,enc:=bD})),
 SV.aw Bs (List.drop (Int.toNat ↑x_1.2) (bR (List.take x_1.1 y)))
 bD=
 SV.aw (View.X {X:=Bs,enc:=bD}) M'_1
 (View.enc {X:=Bs,enc:=bD})/\
 ck
 (Nat.ble ((List.length ([]++M'++[x_2])+M'_1.length)*16) 16777216&&
 Nat.ble (List.length ([]++M'++[x_2])+M'_1.length) 16777216)
 (ck (bY .i64 (↑x_1.1+1))
 (∃(y_1:Nat),
 y_1<=y.length/\
 aS.μ (jC y) y_1<aS.μ (jC y) x/\
 (SV.aw aa y aa.enc=SV.aw aa y aa.enc/\
 SV.aw (View.X {X:=Bs,enc:=bD}) ([]++M'++[x_2]++M'_1)
 (View.enc {X:=Bs,enc:=bD})=
 SV.aw Bs (bR (List.take y_1 y)) bD/\
 aE (↑x_1.1+1) ↑y_1/\True)/\
 (True/\True)/\True)))))))
 (ck (bY .i64 (↑x_1.1+1))
 (∃(y_1:Nat),
 y_1<=y.length/\
 aS.μ (jC y) y_1<aS.μ (jC y) x/\
 (SV.aw aa y aa.enc=SV.aw aa y aa.enc/\
 SV.aw Bs (bR (List.take x_1.1 y)) bD=
 SV.aw Bs (bR (List.take y_1 y)) bD/\
 aE (↑x_1.1+1) ↑y_1/\True)/\
 (True/\True)/\True)))))
 (br ((↑x_1.2:Int)==Int.ofNat (List.length (bR (List.take x_1.1 y))))
 ((∀(x:Bs),List.length (bD x)=1)/\
 ck (Nat.ble (Int.toNat ↑x_1.2) (List.length (bR (List.take x_1.1 y))))
 ((∀(x:Bs),List.length (bD x)=1)/\
 ck (Nat.ble (Int.toNat ↑x_1.2) (List.length (bR (List.take x_1.1 y))))
 ((∀(x:Bs),List.length (bD x)=1/\List.all (bD x) ia=true)/\
 ∃(M':List (View.X {X:=Bs,enc:=bD})),
 SV.aw Bs (List.take (Int.toNat ↑x_1.2) (bR (List.take x_1.1 y))) bD=
 SV.aw (View.X {X:=Bs,enc:=bD}) M'
 (View.enc {X:=Bs,enc:=bD})/\
 ck (Nat.ble ((List.length ([]:List Nat)+M'.length)*16) 16777216&&Nat.ble (List.length ([]:List Nat)+M'.length) 16777216)
 (∃(x_2:View.X {X:=Bs,enc:=bD}),
 [SV.str x_2]=[SV.str (ay.domain (aa.key (Option.getD y[x_1.1]? iv)))]/\
 ck
 (Nat.ble ((List.length ([]++M')+List.length [x_2])*16) 16777216&&
 Nat.ble (List.length ([]++M')+List.length [x_2]) 16777216)
 ((∀(x:Bs),List.length (bD x)=1/\List.all (bD x) ia=true)/\
 ∃(M'_1:List (View.X {X:=Bs,enc:=bD})),
 SV.aw Bs (List.drop (Int.toNat ↑x_1.2) (bR (List.take x_1.1 y)))
 bD=
 SV.aw (View.X {X:=Bs,enc:=bD}) M'_1
 (View.enc {X:=Bs,enc:=bD})/\
 ck
 (Nat.ble ((List.length ([]++M'++[x_2])+M'_1.length)*16) 16777216&&
 Nat.ble (List.length ([]++M'++[x_2])+M'_1.length) 16777216)
 (ck (bY .i64 (↑x_1.1+1))
 (∃(y_1:Nat),
 y_1<=y.length/\
 aS.μ (jC y) y_1<aS.μ (jC y) x/\
 (SV.aw aa y aa.enc=SV.aw aa y aa.enc/\
 SV.aw (View.X {X:=Bs,enc:=bD}) ([]++M'++[x_2]++M'_1)
 (View.enc {X:=Bs,enc:=bD})=
 SV.aw Bs (bR (List.take y_1 y)) bD/\
 aE (↑x_1.1+1) ↑y_1/\True)/\
 (True/\True)/\True)))))))
 (so (bR (List.take x_1.1 y))[Int.toNat ↑x_1.2]? fun(val:Bs)=>
 br (!val==ay.domain (aa.key (Option.getD y[x_1.1]? iv)))
 ((∀(x:Bs),List.length (bD x)=1)/\
 ck (Nat.ble (Int.toNat ↑x_1.2) (List.length (bR (List.take x_1.1 y))))
 ((∀(x:Bs),List.length (bD x)=1)/\
 ck (Nat.ble (Int.toNat ↑x_1.2) (List.length (bR (List.take x_1.1 y))))
 ((∀(x:Bs),List.length (bD x)=1/\List.all (bD x) ia=true)/\
 ∃(M':List (View.X {X:=Bs,enc:=bD})),
 SV.aw Bs (List.take (Int.toNat ↑x_1.2) (bR (List.take x_1.1 y))) bD=
 SV.aw (View.X {X:=Bs,enc:=bD}) M'
 (View.enc {X:=Bs,enc:=bD})/\
 ck (Nat.ble ((List.length ([]:List Nat)+M'.length)*16) 16777216&&Nat.ble (List.length ([]:List Nat)+M'.length) 16777216)
 (∃(x_2:View.X {X:=Bs,enc:=bD}),
 [SV.str x_2]=
 [SV.str (ay.domain (aa.key (Option.getD y[x_1.1]? iv)))]/\
 ck
 (Nat.ble ((List.length ([]++M')+List.length [x_2])*16) 16777216&&
 Nat.ble (List.length ([]++M')+List.length [x_2]) 16777216)
 ((∀(x:Bs),List.length (bD x)=1/\List.all (bD x) ia=true)/\
 ∃(M'_1:List (View.X {X:=Bs,enc:=bD})),
 SV.aw Bs (List.drop (Int.toNat ↑x_1.2) (bR (List.take x_1.1 y)))
 bD=
 SV.aw (View.X {X:=Bs,enc:=bD}) M'_1
 (View.enc {X:=Bs,enc:=bD})/\
 ck
 (Nat.ble ((List.length ([]++M'++[x_2])+M'_1.length)*16) 16777216&&
 Nat.ble (List.length ([]++M'++[x_2])+M'_1.length) 16777216)
 (ck (bY .i64 (↑x_1.1+1))
 (∃(y_1:Nat),
 y_1<=y.length/\
 aS.μ (jC y) y_1<aS.μ (jC y) x/\
 (SV.aw aa y aa.enc=SV.aw aa y aa.enc/\
 SV.aw (View.X {X:=Bs,enc:=bD}) ([]++M'++[x_2]++M'_1)
 (View.enc {X:=Bs,enc:=bD})=
 SV.aw Bs (bR (List.take y_1 y)) bD/\
 aE (↑x_1.1+1) ↑y_1/\True)/\
 (True/\True)/\True)))))))
 (ck (bY .i64 (↑x_1.1+1))
 (∃(y_1:Nat),
 y_1<=y.length/\
 aS.μ (jC y) y_1<aS.μ (jC y) x/\
 (SV.aw aa y aa.enc=SV.aw aa y aa.enc/\
 SV.aw Bs (bR (List.take x_1.1 y)) bD=
 SV.aw Bs (bR (List.take y_1 y)) bD/\
 aE (↑x_1.1+1) ↑y_1/\True)/\
 (True/\True)/\True)))))
 (SV.aw Bs (bR (List.take x y)) bD=SV.aw Bs (bR y) bD/\True)):=by kernel_rfl
end
section
variable [Inhabited aD]
theorem CJ:∀g C,uC g=some C->CO g C:=cW Ou LC
theorem tZ (a b:ay):(a.name==b.name&&(a.domain==b.domain&&(a.path==b.path&&true)))=decide (a=b):=by
 rw[Bh]
 cases a;cases b;simp
section
variable {l:List aa} {p:aa->Bool} {x:Nat}
theorem kO (h:x<l.length):(l.take (x+1)).filter p=(l.take x).filter p++if p l[x]then[l[x]]else[]:=by
 rw[AG h,D4];by_cases hp:p l[x]=true<;>simp[hp]
theorem pE:((l.take x).filter p).length<=x:=Ay (Bi _ _) (by simp;omega)
theorem sP (h:¬(x:Int)<Int.ofNat l.length):(l.take x).filter p=l.filter p:=by
 rw[AP (by simp only[Ak]at h;omega)]
end
theorem Ot:CO oR x7:=cZ (cfg:=fun y=>bU cQ (eD y)) ch (fun _=>rfl) (fun _=>jS) (n:=400) (by
 rw[Oh];rintro⟨a,b⟩ -;simp[au,dY,eA];refine⟨fun h1 h2=>by omega,fun h1=>⟨fun h2=>?_,fun h2=>?_⟩⟩
 . rw[if_neg (by omega),if_pos h2]
 . rw[if_neg (by omega),if_neg (by omega)])
theorem NV:CO oS ny:=cZ (cfg:=fun y=>bU uC (eD y)) ch (fun _=>rfl) (fun _=>CJ) (n:=400) (by
 rw[Oi];rintro⟨a,b⟩ -;exact⟨(a,b),rfl,rfl,trivial,rfl,trivial⟩)
theorem CK:∀g C,uD g=some C->CO g C:=cW Ot (cW NV CJ)
theorem OA:CO pb xK:=cZ (cfg:=fun y=>bU uD (eD y)) ch (fun _=>rfl) (fun _=>CK) (n:=600) (by
 rw[On];rintro⟨a,b⟩ -;refine⟨(_,_),rfl,rfl,trivial,⟨(_,_),rfl,rfl,trivial,⟨(_,_),rfl,rfl,trivial,?_⟩⟩⟩;simp only[au,mI,Eb];generalize de a.name b.name=n
 generalize de a.domain b.domain=d
 generalize de a.path b.path=p
 refine⟨fun h=>?_,fun h=>⟨fun h2=>?_,fun h2=>⟨fun h3=>?_,fun h3=>?_⟩⟩⟩<;>simp_all)
theorem CL:∀g C,uE g=some C->CO g C:=cW OA CK
theorem Gt:CO pa oG:=cZ (cfg:=fun y=>bU uE (eD y)) ch (fun _=>rfl) (fun _=>CL) (n:=400) (by
 rw[Py];rintro⟨a,b⟩ -;refine⟨(a,b),rfl,rfl,rfl,rfl,rfl,rfl,trivial,?_,trivial⟩;simp only[dY,bF])
theorem NZ:CO pc oG:=cZ (cfg:=fun y=>bU cQ (eD y)) ch (fun _=>rfl) (fun _=>jS) (n:=400) (by
 rw[NB];rintro⟨a,b⟩ -;simp only[au,sQ];refine⟨fun h=>?_,fun h=>⟨fun h2=>?_,fun h2=>?_⟩⟩<;>simp_all)
theorem Cf:∀g C,uF g=some C->CO g C:=cW Gt (cW NZ CL)
theorem LD:∀g C,GU g=some C->CO g C:=Cf
theorem Lk:CO oY kj:=cZ (cfg:=fun y=>bU cQ (dX mU 3 (kz (y:List aa×ay).1 fun x=>decide (x.key≠(y:List aa×ay).2)))) ch (fun _=>rfl) (fun _=>jS) (n:=600) (by
 rw[KR];rintro⟨l,k⟩ hpre;have hpre:l.length<=10000:=hpre;refine⟨⟨0,by simp,?_⟩,?_⟩
 . (repeat' (first|exact trivial|exact rfl|exact(fun _=>rfl)|apply And.intro))
 intro x hx;refine au.2 ⟨fun hlt=>aJ.2 ⟨_,eM (eo hlt),?_⟩,fun hge=>⟨by rw[sP (ko hge)];rfl,trivial⟩⟩;have hlt':x<l.length:=eo hlt;have hlen:=pE (l:=l) (x:=x) (p:=fun z:aa=>decide (z.key≠k));refine au.2 ⟨fun h=>⟨l[x],rfl,aq.2 ⟨by simp only[Ab,AQ,As,AE];omega,aq.2 ⟨eG x (by omega),x+1,hlt',?_,?_⟩⟩⟩,fun h=>aq.2 ⟨eG x (by omega),x+1,hlt',?_,?_⟩⟩
 . show l.length - (x+1)<l.length - x
   omega
 . have hp:(fun z:aa=>decide (z.key≠k)) l[x]=true:=by rw[tZ]at h;simpa using h
   have hf:=kO (p:=fun z:aa=>decide (z.key≠k)) hlt';rw[if_pos hp]at hf
   (repeat' (first|exact trivial|exact rfl|exact(fun _=>rfl)|apply And.intro))
   all_goals (first|(rw[hf])|(simp[aE]))
 . show l.length - (x+1)<l.length - x
   omega
 . have hp:(fun z:aa=>decide (z.key≠k)) l[x]=false:=by rw[tZ]at h;simpa using h
   have hf:=kO (p:=fun z:aa=>decide (z.key≠k)) hlt';rw[if_neg (by simp only[hp];simp),Br]at hf
   (repeat' (first|exact trivial|exact rfl|exact(fun _=>rfl)|apply And.intro))
   all_goals (first|(rw[hf])|(simp[aE])))
theorem JD:CO lk kj:=cZ (cfg:=fun y=>bU cQ (dX lk 3 (pB y))) ch (fun _=>rfl) (fun _=>jS) (n:=400) (by
 rw[JT];rintro⟨l,k⟩ hpre;have hpre:l.length<=10000:=hpre;refine⟨⟨0,by simp,?_⟩,?_⟩
 . (repeat' (first|exact trivial|exact rfl|exact(fun _=>rfl)|apply And.intro))
 intro x hx;refine au.2 ⟨fun hlt=>aJ.2 ⟨_,eM (eo hlt),?_⟩,fun hge=>⟨by rw[sP (ko hge)];rfl,trivial⟩⟩;have hlt':x<l.length:=eo hlt;have hlen:=pE (l:=l) (x:=x) (p:=fun z:aa=>decide (z.key≠k));refine au.2 ⟨fun h=>aJ.2 ⟨l[x],eM hlt',⟨l[x],rfl,aq.2 ⟨by simp only[Ab,AQ,As,AE];omega,aq.2 ⟨eG x (by omega),x+1,hlt',?_,?_⟩⟩⟩⟩,fun h=>aq.2 ⟨eG x (by omega),x+1,hlt',?_,?_⟩⟩
 . show l.length - (x+1)<l.length - x
   omega
 . have hp:(fun z:aa=>decide (z.key≠k)) l[x]=true:=by rw[tZ]at h;simpa using h
   have hf:=kO (p:=fun z:aa=>decide (z.key≠k)) hlt';rw[if_pos hp]at hf
   (repeat' (first|exact trivial|exact rfl|exact(fun _=>rfl)|apply And.intro))
   all_goals (first|(rw[hf])|(simp[aE]))
 . show l.length - (x+1)<l.length - x
   omega
 . have hp:(fun z:aa=>decide (z.key≠k)) l[x]=false:=by rw[tZ]at h;simpa using h
   have hf:=kO (p:=fun z:aa=>decide (z.key≠k)) hlt';rw[if_neg (by simp only[hp];simp),Br]at hf
   (repeat' (first|exact trivial|exact rfl|exact(fun _=>rfl)|apply And.intro))
   all_goals (first|(rw[hf])|(simp[aE])))
theorem L9:CO o6 kg:=cZ (cfg:=fun y=>bU cQ (dX mU 3 (kz (y:List aa×Bs).1 fun x=>decide (x.key.domain=(y:List aa×Bs).2)))) ch (fun _=>rfl) (fun _=>jS) (n:=600) (by
 rw[Mx];rintro⟨l,k⟩ hpre;have hpre:l.length<=10000:=hpre;refine⟨⟨0,by simp,?_⟩,?_⟩
 . (repeat' (first|exact trivial|exact rfl|exact(fun _=>rfl)|apply And.intro))
 intro x hx;refine au.2 ⟨fun hlt=>aJ.2 ⟨_,eM (eo hlt),?_⟩,fun hge=>⟨by rw[sP (ko hge)];rfl,trivial⟩⟩;have hlt':x<l.length:=eo hlt;have hlen:=pE (l:=l) (x:=x) (p:=fun z:aa=>decide (z.key.domain=k));refine au.2 ⟨fun h=>⟨l[x],rfl,aq.2 ⟨by simp only[Ab,AQ,As,AE];omega,aq.2 ⟨eG x (by omega),x+1,hlt',?_,?_⟩⟩⟩,fun h=>aq.2 ⟨eG x (by omega),x+1,hlt',?_,?_⟩⟩
 . show l.length - (x+1)<l.length - x
   omega
 . have hp:(fun z:aa=>decide (z.key.domain=k)) l[x]=true:=by simpa using h
   have hf:=kO (p:=fun z:aa=>decide (z.key.domain=k)) hlt';rw[if_pos hp]at hf
   (repeat' (first|exact trivial|exact rfl|exact(fun _=>rfl)|apply And.intro))
   all_goals (first|(rw[hf])|(simp[aE]))
 . show l.length - (x+1)<l.length - x
   omega
 . have hp:(fun z:aa=>decide (z.key.domain=k)) l[x]=false:=by simpa using h
   have hf:=kO (p:=fun z:aa=>decide (z.key.domain=k)) hlt';rw[if_neg (by simp only[hp];simp),Br]at hf
   (repeat' (first|exact trivial|exact rfl|exact(fun _=>rfl)|apply And.intro))
   all_goals (first|(rw[hf])|(simp[aE])))
theorem Lh:CO lr kg:=cZ (cfg:=fun y=>bU cQ (dX lr 3 (pH y))) ch (fun _=>rfl) (fun _=>jS) (n:=400) (by
 rw[KP];rintro⟨l,k⟩ hpre;have hpre:l.length<=10000:=hpre;refine⟨⟨0,by simp,?_⟩,?_⟩
 . (repeat' (first|exact trivial|exact rfl|exact(fun _=>rfl)|apply And.intro))
 intro x hx;refine au.2 ⟨fun hlt=>aJ.2 ⟨_,eM (eo hlt),?_⟩,fun hge=>⟨by rw[sP (ko hge)];rfl,trivial⟩⟩;have hlt':x<l.length:=eo hlt;have hlen:=pE (l:=l) (x:=x) (p:=fun z:aa=>decide (z.key.domain=k));refine au.2 ⟨fun h=>aJ.2 ⟨l[x],eM hlt',⟨l[x],rfl,aq.2 ⟨by simp only[Ab,AQ,As,AE];omega,aq.2 ⟨eG x (by omega),x+1,hlt',?_,?_⟩⟩⟩⟩,fun h=>aq.2 ⟨eG x (by omega),x+1,hlt',?_,?_⟩⟩
 . show l.length - (x+1)<l.length - x
   omega
 . have hp:(fun z:aa=>decide (z.key.domain=k)) l[x]=true:=by simpa using h
   have hf:=kO (p:=fun z:aa=>decide (z.key.domain=k)) hlt';rw[if_pos hp]at hf
   (repeat' (first|exact trivial|exact rfl|exact(fun _=>rfl)|apply And.intro))
   all_goals (first|(rw[hf])|(simp[aE]))
 . show l.length - (x+1)<l.length - x
   omega
 . have hp:(fun z:aa=>decide (z.key.domain=k)) l[x]=false:=by simpa using h
   have hf:=kO (p:=fun z:aa=>decide (z.key.domain=k)) hlt';rw[if_neg (by simp only[hp];simp),Br]at hf
   (repeat' (first|exact trivial|exact rfl|exact(fun _=>rfl)|apply And.intro))
   all_goals (first|(rw[hf])|(simp[aE])))
theorem kX {x n:Nat} (h:cH (x:Int) (Int.ofNat n)=false):n<=x:=by
 have:=ko h;simp only[Ak]at this;omega
theorem Fl (a b:aa):(a.key.name==b.key.name&&(a.key.domain==b.key.domain&&(a.key.path==b.key.path&&true))&&(a.ab.value==b.ab.value&&(a.ab.aH==b.ab.aH&&(a.ab.aZ==b.ab.aZ&&(a.ab.aI==b.ab.aI&&(a.ab.persistent==b.ab.persistent&&(a.ab.aW==b.ab.aW&&(a.ab.aG==b.ab.aG&&(a.ab.access==b.ab.access&&true)))))))&&true))=decide (a=b):=by
 rw[Bh];obtain⟨⟨a1,a2,a3⟩,⟨a4,a5,a6,a7,a8,a9,a10,a11⟩⟩:=a;obtain⟨⟨b1,b2,b3⟩,⟨b4,b5,b6,b7,b8,b9,b10,b11⟩⟩:=b;simp only[Ab,B6,Ah,aa.mk.injEq,ay.mk.injEq,dP.mk.injEq,Eb]
theorem N4:CO ly xu:=cZ (cfg:=fun y=>bU cQ (dX ly 4 (uc y))) ch (fun _=>rfl) (fun _=>jS) (n:=400) (by
 rw[NC];rintro⟨l,m⟩ ⟨hl,hm⟩;have hl:l.length<=10000:=hl;refine au.2 ⟨fun h=>⟨?_,trivial⟩,fun h=>⟨⟨0,⟨by simp,?_,by simp⟩,?_⟩,?_⟩⟩
 . symm;rw[Ao];intro e;have e:l=m:=e;subst e;simp at h
 . simp only[Ep,B6,Ak]at h;simp only at h⊢;omega
 . (repeat' (first|exact trivial|exact rfl|exact(fun _=>rfl)|apply And.intro))
 rintro x ⟨hx,hlen,ht⟩;have hlen:l.length=m.length:=hlen;have ht:l.take x=m.take x:=ht;refine au.2 ⟨fun hlt=>?_,fun hge=>⟨?_,trivial⟩⟩
 . have hlt':x<l.length:=eo hlt;refine aJ.2 ⟨_,eM hlt',aJ.2 ⟨_,eM (show x<m.length by omega),au.2 ⟨fun h2=>⟨?_,trivial⟩,fun h2=>aq.2 ⟨eG x (by omega),x+1,⟨hlt',hlen,?_⟩,?_,?_⟩⟩⟩⟩
   . rw[Fl]at h2;symm;rw[Ao];intro e;have e:l=m:=e;subst e;simp at h2
   . rw[Fl]at h2;show l.take (x+1)=m.take (x+1)
     rw[AG hlt',AG (show x<m.length by omega),ht];have:l[x]=m[x]'(by omega):=by simpa using h2
     rw[this]
   . show l.length - (x+1)<l.length - x
     omega
   . (repeat' (first|exact trivial|exact rfl|exact(fun _=>rfl)|apply And.intro))
 . symm;rw[Ah];have:l.length<=x:=kX hge;rw[AP (by omega),AP (by omega)]at ht;exact ht)
theorem N5:CO lj xv:=cZ (cfg:=fun y=>bU cQ (dX lj 4 (ud y))) ch (fun _=>rfl) (fun _=>jS) (n:=400) (by
 rw[ND];rintro⟨l,m⟩ ⟨hl,hm⟩;have hl:l.length<=10000:=hl;refine au.2 ⟨fun h=>⟨?_,trivial⟩,fun h=>⟨⟨0,⟨by simp,?_,by simp⟩,?_⟩,?_⟩⟩
 . symm;rw[Ao];intro e;have e:l=m:=e;subst e;simp at h
 . simp only[Ep,B6,Ak]at h;simp only at h⊢;omega
 . (repeat' (first|exact trivial|exact rfl|exact(fun _=>rfl)|apply And.intro))
 rintro x ⟨hx,hlen,ht⟩;have hlen:l.length=m.length:=hlen;have ht:l.take x=m.take x:=ht;refine au.2 ⟨fun hlt=>?_,fun hge=>⟨?_,trivial⟩⟩
 . have hlt':x<l.length:=eo hlt;refine aJ.2 ⟨_,eM hlt',aJ.2 ⟨_,eM (show x<m.length by omega),au.2 ⟨fun h2=>⟨?_,trivial⟩,fun h2=>aq.2 ⟨eG x (by omega),x+1,⟨hlt',hlen,?_⟩,?_,?_⟩⟩⟩⟩
   . skip
     symm;rw[Ao];intro e;have e:l=m:=e;subst e;simp at h2
   . skip
     show l.take (x+1)=m.take (x+1)
     rw[AG hlt',AG (show x<m.length by omega),ht];have:l[x]=m[x]'(by omega):=by simpa using h2
     rw[this]
   . show l.length - (x+1)<l.length - x
     omega
   . (repeat' (first|exact trivial|exact rfl|exact(fun _=>rfl)|apply And.intro))
 . symm;rw[Ah];have:l.length<=x:=kX hge;rw[AP (by omega),AP (by omega)]at ht;exact ht)
theorem CS (l:List aa) (x:aa):(dx l x).length<=l.length+1:=by
 have h:∀l:List aa,(l.filter fun y=>bF y.key x.key).length+(l.filter fun y=>bF x.key y.key).length<=l.length:=by
  intro l;induction l with
  |nil=>simp
  |cons y l ih=>
   simp only[Bn];by_cases h1:bF y.key x.key=true
   . rw[if_pos h1,if_neg (by rw[vu _ _ h1];simp)];simp;omega
   . rw[if_neg h1];by_cases h2:bF x.key y.key=true
     . rw[if_pos h2];simp;omega
     . rw[if_neg h2];simp;omega
 have:=h l;unfold dx;simp;omega
theorem vL:∀(l a:List aa),(l.foldl dx a).length<=a.length+l.length
 |[],a=>by simp
 |x::l,a=>by
  have h1:=vL l (dx a x);have h2:=CS a x;simp only[BL,As];omega
theorem qO {α β:Type} (f:β->α->β) (b:β) {l:List α} {x:Nat} (h:x<l.length):(l.take (x+1)).foldl f b=f ((l.take x).foldl f b) l[x]:=by
 rw[AG h,Ew];rfl
theorem Cc {α:Type} {l:List α} {x:Nat} (h:¬(x:Int)<Int.ofNat l.length):l.take x=l:=AP (by simp only[Ak]at h;omega)
theorem OC:CO lC xL:=cZ (cfg:=fun y=>bU uF (dX lC 4 (l3 y))) ch (fun _=>rfl) (fun _=>Cf) (n:=600) (by
 rw[PA];rintro⟨l,k⟩ hpre;have hpre:l.length<=10000:=hpre;refine⟨⟨0,by simp,?_⟩,?_⟩
 . (repeat' (first|exact trivial|exact rfl|exact(fun _=>rfl)|apply And.intro))
 intro x hx;have n1:=pE (l:=l) (x:=x) (p:=fun z=>bF z.key k.key);have n2:=pE (l:=l) (x:=x) (p:=fun z=>bF k.key z.key);have hx':x<=l.length:=hx;refine bN (fun hlt=>?_) fun hge=>?_
 . have hlt':x<l.length:=eo hlt;have hmu:l.length - (x+1)<l.length - x:=by omega
   have f1:=kO (p:=fun z=>bF z.key k.key) hlt';have f2:=kO (p:=fun z=>bF k.key z.key) hlt';refine aJ.2 ⟨_,eM hlt',(l[x].key,k.key),rfl,rfl,rfl,rfl,rfl,rfl,trivial,au.2 ⟨fun h1=>aJ.2 ⟨_,eM hlt',l[x],rfl,aq.2 ⟨by simp only[Ab,AQ,Aw,As,AE];omega,aJ.2 ⟨_,eM hlt',(k.key,l[x].key),rfl,rfl,rfl,rfl,rfl,rfl,trivial,au.2 ⟨fun h2=>aJ.2 ⟨_,eM hlt',l[x],rfl,aq.2 ⟨by simp only[Ab,AQ,Aw,As,AE];omega,?_⟩⟩,fun h2=>?_⟩⟩⟩⟩,fun h1=>aJ.2 ⟨_,eM hlt',(k.key,l[x].key),rfl,rfl,rfl,rfl,rfl,rfl,trivial,au.2 ⟨fun h2=>aJ.2 ⟨_,eM hlt',l[x],rfl,aq.2 ⟨by simp only[Ab,AQ,Aw,As,AE];omega,?_⟩⟩,fun h2=>?_⟩⟩⟩⟩
   . have g1:bF l[x].key k.key=true:=h1;have g2:bF k.key l[x].key=true:=h2;refine aq.2 ⟨eG x (by omega),x+1,hlt',hmu,?_⟩
     (repeat' (first|exact trivial|exact rfl|exact(fun _=>rfl)|apply And.intro))
     all_goals (first|(rw[f1,if_pos g1])|(rw[f2,if_pos g2]))
   . have g1:bF l[x].key k.key=true:=h1;have g2:bF k.key l[x].key=false:=h2;refine aq.2 ⟨eG x (by omega),x+1,hlt',hmu,?_⟩
     (repeat' (first|exact trivial|exact rfl|exact(fun _=>rfl)|apply And.intro))
     all_goals (first|(rw[f1,if_pos g1])|(rw[f2,if_neg (by simp[g2]),Br]))
   . have g1:bF l[x].key k.key=false:=h1;have g2:bF k.key l[x].key=true:=h2;refine aq.2 ⟨eG x (by omega),x+1,hlt',hmu,?_⟩
     (repeat' (first|exact trivial|exact rfl|exact(fun _=>rfl)|apply And.intro))
     all_goals (first|(rw[f1,if_neg (by simp[g1]),Br])|(rw[f2,if_pos g2]))
   . have g1:bF l[x].key k.key=false:=h1;have g2:bF k.key l[x].key=false:=h2;refine aq.2 ⟨eG x (by omega),x+1,hlt',hmu,?_⟩
     (repeat' (first|exact trivial|exact rfl|exact(fun _=>rfl)|apply And.intro))
     all_goals (first|(rw[f1,if_neg (by simp[g1]),Br])|(rw[f2,if_neg (by simp[g2]),Br]))
 . have hge':l.length<=x:=kX hge;refine⟨k,rfl,aq.2 ⟨by simp only[Ab,AQ,Aw,As,AE];omega,fun _=>⟨rfl,rfl⟩,_,rfl,aq.2 ⟨by simp only[Ab,AQ,Aw,As,AE];omega,?_,trivial⟩⟩⟩;show SV.aw aa ((l.take x).filter (fun z=>bF z.key k.key)++[k]++(l.take x).filter (fun z=>bF k.key z.key)) aa.enc=SV.aw aa (dx l k) aa.enc
   rw[AP hge'];unfold dx;simp)
theorem wH:∀g C,p9 g=some C->CO g C:=cW Lk (cW JD (cW L9 (cW Lh (cW N4 (cW N5 (cW OC LD))))))
theorem L8:CO lq wX:=cZ (cfg:=fun y=>bU p9 (dX lq 3 (tW y))) ch (fun _=>rfl) (fun _=>wH) (n:=400) (by
 rw[Mw];intro l hpre;have hpre:l.length<=1000:=hpre;refine⟨⟨0,by simp,?_⟩,?_⟩
 . (repeat' (first|exact trivial|exact rfl|exact(fun _=>rfl)|apply And.intro))
 intro x hx;refine au.2 ⟨fun hlt=>?_,fun hge=>⟨by rw[Cc (ko hge)],trivial⟩⟩;have hlt':x<l.length:=eo hlt;have hn:=qO dx ([]:List aa) hlt';refine aJ.2 ⟨_,eM hlt',(fa (l.take x),l[x]),rfl,rfl,rfl,rfl,rfl,rfl,rfl,rfl,rfl,rfl,rfl,rfl,?_,aq.2 ⟨eG x (by omega),x+1,hlt',?_,?_⟩⟩
 . have:=vL (l.take x) [];unfold fa;simp at this⊢;omega
 . show l.length - (x+1)<l.length - x
   omega
 . (repeat' (first|exact trivial|exact rfl|exact(fun _=>rfl)|apply And.intro))
   all_goals (simp only[fa,hn]))
theorem uo {α:Type} {p:α->Bool}:∀{l:List α} {j:Nat} (_:j<(l.takeWhile p).length),∃h:j<l.length,p l[j]=true
 |[],j,hj=>by simp at hj
 | a ::l,j,hj=>by
  by_cases hb:p a=true
  . rw[Bk,if_pos hb]at hj
    cases j with
    |zero=>exact⟨by simp,by simpa using hb⟩
    |succ j=>
     obtain⟨h1,h2⟩:=uo (l:=l) (j:=j) (by simpa using hj);exact⟨by simpa using h1,by simpa using h2⟩
  . rw[Bk,if_neg hb]at hj;simp at hj
theorem uT {α:Type} {p:α->Bool}:∀{l:List α} (h:(l.takeWhile p).length<l.length),p (l[(l.takeWhile p).length])=false
 |[],h=>by simp at h
 |a::l,h=>by
  by_cases hb:p a=true
  . have e:((a::l).takeWhile p).length=(l.takeWhile p).length+1:=by rw[Bk,if_pos hb];rfl
    simp only[e,EZ];exact uT (by rw[e]at h;simpa using h)
  . have e:((a::l).takeWhile p).length=0:=by rw[Bk,if_neg hb];rfl
    simp only[e,EY];exact AY.2 hb
theorem F6 (L:List Bs) (d:Bs):cS L d<=L.length:=(DJ _).length_le
theorem Ln {L:List Bs} {d:Bs} {k:Nat} (hk:k<=cS L d) (h:k<L.length) (hl:lt L[k] d=true):k+1<=cS L d:=by
 apply BR;intro hn;have e:cS L d=k:=by omega
 have:=uT (p:=fun x=>lt x d) (l:=L) (by show cS L d<L.length;omega);have e2:(L.takeWhile fun x=>lt x d).length=k:=e;simp only[e2]at this;rw[hl]at this
 cases this
theorem Lo {L:List Bs} {d:Bs} {k:Nat} (hk:k<=cS L d) (h:k<L.length) (hl:lt L[k] d=false):k=cS L d:=by
 apply BR;intro hn;obtain⟨h1,h2⟩:=uo (p:=fun x=>lt x d) (l:=L) (j:=k) (by show k<cS L d;omega);rw[hl]at h2
 cases h2
theorem ME (L:List Bs) (d:Bs):(eU L d).length<=L.length+1:=by
 unfold eU;have:=F6 L d;split
 . omega
 . simp;omega
theorem vq:∀(l:List aa) (a:List Bs),(l.foldl (fun a x=>eU a x.key.domain) a).length<=a.length+l.length
 |[],a=>by simp
 |x::l,a=>by
  have h1:=vq l (eU a x.key.domain);have h2:=ME a x.key.domain;simp only[BL,As];omega
theorem Li:CO jv wD:=cZ (cfg:=fun y=>bU p9 (xa jv 7 (tu y) (dX jv 3 (jC y)))) ch (fun _=>rfl) (fun _=>wH) (n:=600) (by
 rw[KQ];intro l hpre;have hpre:l.length<=10000:=hpre;refine⟨⟨0,by simp,?_⟩,?_⟩
 . (repeat' (first|exact trivial|exact rfl|exact(fun _=>rfl)|apply And.intro))
 intro x hx;refine au.2 ⟨fun hlt=>?_,fun hge=>⟨by rw[Cc (ko hge)],trivial⟩⟩;have hlt':x<l.length:=eo hlt;have hd:((l[x]?).getD iv).key.domain=l[x].key.domain:=by simp[hlt']
 refine aJ.2 ⟨_,eM hlt',(x,0),⟨(x,0),⟨⟨hlt',Bf _⟩,rfl⟩,?_⟩,?_⟩
 . (repeat' (first|exact trivial|exact rfl|exact(fun _=>rfl)|apply And.intro))
   all_goals (simp[hlt'])
 rintro⟨x1,k⟩ ⟨⟨h1,h2⟩,hx1⟩;have hx1:x1=x:=hx1;subst hx1;have hn:=qO (fun a (z:aa)=>eU a z.key.domain) ([]:List Bs) hlt';have hn:bR (l.take (x1+1))=eU (bR (l.take x1)) l[x1].key.domain:=hn;have hlen:(bR (l.take x1)).length<=x1:=by have:=vq (l.take x1) [];unfold bR;simp at this⊢;omega
 have hk:k<=cS (bR (l.take x1)) l[x1].key.domain:=h2;have hkp:=F6 (bR (l.take x1)) l[x1].key.domain;have hkl:k<=(bR (l.take x1)).length:=by omega
 have hmu:l.length - (x1+1)<l.length - x1:=by omega
 refine bN (fun hlt2=>?_) fun hge2=>?_
 . have hlt2':k<(bR (l.take x1)).length:=eo hlt2;refine aJ.2 ⟨_,eM hlt2',au.2 ⟨fun hl=>aq.2 ⟨eG k (by omega),(x1,k+1),⟨⟨hlt',?_⟩,rfl⟩,?_,?_⟩,fun hl=>au.2 ⟨fun he=>absurd he (by simp;omega),fun he=>aJ.2 ⟨_,eM hlt2',au.2 ⟨fun hne=>?_,fun hne=>?_⟩⟩⟩⟩⟩
   . exact Ln hk hlt2' (by rw[<-hd];exact hl)
   . show(bR (l.take x1)).length - (k+1)<(bR (l.take x1)).length - k
     omega
   . (repeat' (first|exact trivial|exact rfl|exact(fun _=>rfl)|apply And.intro))
   all_goals (have hkk:k=cS (bR (l.take x1)) l[x1].key.domain:=Lo hk hlt2' (by rw[<-hd];exact hl))
   all_goals (have hne:=hne;simp only[hd]at hne)
   . refine⟨fun _=>rfl,aq.2 ⟨by rw[AQ];exact hkl,fun _=>rfl,aq.2 ⟨by rw[AQ];exact hkl,fun _=>⟨rfl,rfl⟩,(bR (l.take x1)).take k,rfl,aq.2 ⟨by simp only[Ab,AQ,Aw,As,AE,A7,A9];omega,l[x1].key.domain,by rw[hd],aq.2 ⟨by simp only[Ab,AQ,Aw,As,AE,A7,A9];omega,fun _=>⟨rfl,rfl⟩,(bR (l.take x1)).drop k,rfl,aq.2 ⟨by simp only[Ab,AQ,Aw,As,AE,A7,A9];omega,aq.2 ⟨eG x1 (by omega),x1+1,hlt',hmu,?_⟩⟩⟩⟩⟩⟩⟩
     (repeat' (first|exact trivial|exact rfl|exact(fun _=>rfl)|apply And.intro))
     all_goals (first|(rw[hn];unfold eU;rw[<-hkk,if_neg (by rw[Ae hlt2'];simpa using hne)];simp)|(simp[aE]))
   . refine aq.2 ⟨eG x1 (by omega),x1+1,hlt',hmu,?_⟩
     (repeat' (first|exact trivial|exact rfl|exact(fun _=>rfl)|apply And.intro))
     all_goals (first|(rw[hn];unfold eU;rw[<-hkk,if_pos (by rw[Ae hlt2'];simpa using hne)])|(simp[aE]))
 . have hge2':(bR (l.take x1)).length<=k:=kX hge2;have hkk:k=cS (bR (l.take x1)) l[x1].key.domain:=by omega
   refine au.2 ⟨fun he=>?_,fun he=>absurd he (by simp;omega)⟩;refine⟨fun _=>rfl,aq.2 ⟨by rw[AQ];exact hkl,fun _=>rfl,aq.2 ⟨by rw[AQ];exact hkl,fun _=>⟨rfl,rfl⟩,(bR (l.take x1)).take k,rfl,aq.2 ⟨by simp only[Ab,AQ,Aw,As,AE,A7,A9];omega,l[x1].key.domain,by rw[hd],aq.2 ⟨by simp only[Ab,AQ,Aw,As,AE,A7,A9];omega,fun _=>⟨rfl,rfl⟩,(bR (l.take x1)).drop k,rfl,aq.2 ⟨by simp only[Ab,AQ,Aw,As,AE,A7,A9];omega,aq.2 ⟨eG x1 (by omega),x1+1,hlt',hmu,?_⟩⟩⟩⟩⟩⟩⟩
   (repeat' (first|exact trivial|exact rfl|exact(fun _=>rfl)|apply And.intro))
   all_goals (first|(rw[hn];unfold eU;rw[<-hkk,if_neg (by rw[Ba hge2'];simp)];simp)|(simp[aE])))
theorem Cg:∀g C,xS g=some C->CO g C:=cW L8 (cW Li wH)
end
section
abbrev aV (s:Bs):Value:= .string ⟨s.toArray⟩
def cg (x:aa):List Value:=[aV x.key.name,aV x.key.domain,aV x.key.path,aV x.ab.value, .bool x.ab.aH, .bool x.ab.aZ, .bool x.ab.aI, .bool x.ab.persistent, .int .i64 x.ab.aW, .int .i64 x.ab.aG, .int .i64 x.ab.access]
theorem jz (x:aa):(cg x).length=11:=rfl
def rowAt (w:World) (b off:Nat) (l:List aa):Prop:=∀(i:Nat) x (j:Nat) v,l[i]? =some x->(cg x)[j]? =some v->w.cell? ⟨b,off+i*11+j,none⟩=some v
theorem rowAt.range {w:World} {b off:Nat} {l:List aa} (h:rowAt w b off l) {i:Nat} {x:aa} (hx:l[i]? =some x):w.rangeAt b (off+i*11) (cg x):=fun j v hv=>h i x j v hx hv
theorem rowAt.below {w w':World} {b off:Nat} {l:List aa} (h:rowAt w b off l) {B:Nat} (hb:Below B w w') (hlt:b<B):rowAt w' b off l:=fun i x j v hx hv=>by
 have h1:=h i x j v hx hv;unfold World.cell? at h1⊢;rw[hb.block b hlt];exact h1
theorem OM {w:World} {p:Nat->Prop} {a:Bool} {s:Bs} {v:Value} (h:Rd w p a (.str s) v):v=aV s:=by cases h;rfl
theorem Nr {w:World} {p:Nat->Prop} {a:Bool} {b:Bool} {v:Value} (h:Rd w p a (.bool b) v):v= .bool b:=by cases h;rfl
theorem OK {w:World} {p:Nat->Prop} {a:Bool} {k:IntKind} {n:Int} {v:Value} (h:Rd w p a (.int k n) v):v= .int k n:=by cases h;rfl
theorem F8 {w:World} {p:Nat->Prop} {a:Bool} {x:aa} {j:Nat} {s:SV} {v u:Value} (hs:x.enc[j]? =some s) (hv:(cg x)[j]? =some v) (h:Rd w p a s u):u=v:=by
 unfold aa.enc at hs;unfold cg at hv;have hj:j<11:=(Ac.1 hv).1;match j,hj with
 |0,_|1,_|2,_|3,_=>cases hs;cases hv;exact OM h
 |4,_|5,_|6,_|7,_=>cases hs;cases hv;exact Nr h
 |8,_|9,_|10,_=>cases hs;cases hv;exact OK h
theorem FR {x:aa} {j:Nat} (h:j<11):∃s,x.enc[j]? =some s:=⟨_,Ae (by exact h)⟩
theorem wN {w:World} {p:Nat->Prop} {l:List aa} {v:Value} (h:Rd w p true (eH l) v):
  (l=[]/\ ∃a c,v= .slice a 0 c)\/ ∃b off cap,v= .slice (some ⟨b,off,none⟩) l.length cap/\b<w.heap.size/\rowAt w b off l/\l.length<=cap/\ ∃arr e fz,w.heap[b]? =some (.cells arr e fz)/\off+l.length*11<=arr.size:=by
 unfold eH at h
 cases h with
 |gX h0=>exact .inl ⟨Bj.1 h0,none,0,rfl⟩
 |bL _ h0 a c=>exact .inl ⟨Bj.1 h0,a,c,rfl⟩
 |aw b off cap arr e fz sz u hp hb hs hl hn hc h1 h2=>
  refine .inr ⟨b,off,cap,rfl,(Aa.1 hb).1,fun i x j v hx hv=>?_,hc,arr,e,fz,hb,?_⟩;rotate_left
  . cases hL:l with
    |nil=>simp;omega
    |cons x l'=>
     have:sz=11:=(hn 0 x (by rw[hL];rfl)).symm;rw[<-hL];rw[<-this];exact hl
  have hj:j<11:=(Ac.1 hv).1;obtain⟨s,hs'⟩:=FR (x:=x) hj;have hsz:sz=11:=(hn i x hx).symm;subst hsz;have e1:=h1 i x j s hx hs';have e2:=F8 hs' hv (h2 i x j s hx hs');unfold World.cell?
  simp only[hb,A1,Ai,Az];rw[e1,e2]
theorem FU {w:World} {base:Nat} {e:TypeId} {v:Value} {l:List Bs} (h:w.ownsRow base e 1 v l.length (l.map aV)):Up w base (strs l) v:=by
 obtain⟨h1,⟨rfl,h0⟩|⟨g,cap,cur,rfl,hb,hg,hn,_,hcs,htk⟩⟩:=h
 . exact .gX h0
 . have hl:l.length<=cur.size:=by omega
   refine .aw g 0 cap cur e (0,0) 1 (fun i _=>aV (l[i]?.getD [])) hb hg (by omega) (by omega) (fun _ _ _=>rfl) hn (fun i x j s _ hs=>?_) (fun i x j s hx hs=>?_) (fun i x j s hx hs=>?_)
   . cases j with
     |zero=>cases hs;rfl
     |succ j=>cases hs
   . cases j with
     |zero=>
      have h2:=Aq (fun l=>l[i]?) htk;have hi:=(Ac.1 hx).1;simp only[E8,AU,if_pos hi,Av,hx,A2]at h2;rw[show 0+i*1+0=i by omega,<-AW,h2,hx];rfl
     |succ j=>cases hs
   . cases j with
     |zero=>cases hs;rw[hx];exact .str _
     |succ j=>cases hs
theorem Mv {w:World} {n b off cap:Nat} {arr:Array Value} {e:TypeId} {fz:Nat×Nat} {l:List aa} (hp:n<=b) (hb:w.heap[b]? =some (.cells arr e fz)) (hc:l.length<=cap) (hl:off+l.length*11<=arr.size)
   (h:∀(i:Nat) x (j:Nat) v,l[i]? =some x->(cg x)[j]? =some v->arr[off+i*11+j]? =some v):Up w n (eH l) (.slice (some ⟨b,off,none⟩) l.length cap):=by
 refine .aw b off cap arr e fz 11 (fun i j=>((l[i]?.map cg).getD [])[j]?.getD (.bool false)) hp hb (by omega) hl (fun _ _ _=>rfl) hc (fun i x j s hx hs=>?_) (fun i x j s hx hs=>?_) (fun i x j s hx hs=>?_)
 . have hj:j<11:=(Ac.1 hs).1;unfold aa.enc at hs;match j,hj with
   |0,_|1,_|2,_|3,_|4,_|5,_|6,_|7,_|8,_|9,_|10,_=>cases hs;rfl
 . have hj:j<11:=(Ac.1 hs).1;have hv:(cg x)[j]? =some ((cg x)[j]'hj):=Ae hj;rw[h i x j _ hx hv,hx];simp[hv]
 . have hj:j<11:=(Ac.1 hs).1;rw[hx];unfold aa.enc at hs;match j,hj with
   |0,_|1,_|2,_|3,_=>cases hs;exact .str _
   |4,_|5,_|6,_|7,_=>cases hs;exact .bool _
   |8,_|9,_|10,_=>cases hs;exact .int _ _
variable [Inhabited aD]
theorem K4 {tab:aR} {w:World} {b off cap:Nat} {l:List aa} (hc:l.length<=cap) (hb:∃arr e fz,w.heap[b]? =some (.cells arr e fz)/\off+l.length*11<=arr.size) (h:rowAt w b off l):
  aF (bK tab w).get (eH l) (dq w.heap.size (.slice (some ⟨b,off,none⟩) l.length cap)):=by
 obtain⟨arr,e,fz,hb,hl⟩:=hb;refine wP hb (sz:=11) (by omega) (fun _ _=>rfl) hl rfl hc fun i x j s hx hs=>?_
 have hj:j<11:=(Ac.1 hs).1;have hv:(cg x)[j]? =some ((cg x)[j]'hj):=Ae hj;have h1:=h i x j _ hx hv;unfold World.cell? at h1;simp only[hb,A1,Ai,Az]at h1;refine⟨_,h1,?_⟩;unfold aa.enc at hs;match j,hj with
 |0,_|1,_|2,_|3,_=>cases hs;exact .str _
 |4,_|5,_|6,_|7,_=>cases hs;exact .bool _
 |8,_|9,_|10,_=>cases hs;exact .int _ _
end
abbrev KN (l:List aa):Prop:=(l.map fun x=>x.key).Nodup
theorem KN.sub {l l':List aa} (h:KN l) (hs:l'.Sublist l):KN l':=D5 (hs.map _) h
theorem KN.nodup {l:List aa} (h:KN l):l.Nodup:=by
 unfold KN at h;rw[D2,Et]at h;rw[D2];exact h.imp fun hab e=>hab (by rw[e])
theorem KN.inj:∀{l:List aa},KN l->∀{a b:aa},a∈l->b∈l->a.key=b.key->a=b
 |[],_,a,b,ha,_,_=>by cases ha
 |x::l,h,a,b,ha,hb,hk=>by
  have h0:x.key∉l.map (fun x=>x.key)/\KN l:=by simpa [KN]using h
  rcases Ag.1 ha with rfl|ha'<;>rcases Ag.1 hb with rfl|hb'
  . rfl
  . exact absurd (Ar.2 ⟨b,hb',hk.symm⟩) h0.1
  . exact absurd (Ar.2 ⟨a,ha',hk⟩) h0.1
  . exact h0.2.inj ha' hb' hk
theorem MP {L:List Bs} {d e:Bs}:e∈eU L d↔e=d\/e∈L:=by
 unfold eU;split
 . rename_i h;have:d∈L:=BC h;constructor
   . exact .inr
   . rintro(rfl|h)
     . exact this
     . exact h
 . rw[Bc,Ag];conv=>rhs;rw[<-BS (cS L d) L]
   rw[Bc];constructor
   . rintro(h|h|h)
     . exact .inr (.inl h)
     . exact .inl h
     . exact .inr (.inr h)
   . rintro(h|h|h)
     . exact .inr (.inl h)
     . exact .inl h
     . exact .inr (.inr h)
theorem Fw:∀(l:List aa) (a:List Bs) (d:Bs),d∈l.foldl (fun a x=>eU a x.key.domain) a↔d∈a\/ ∃x∈l,x.key.domain=d
 |[],a,d=>by simp
 |x::l,a,d=>by
  rw[BL,Fw l,MP];constructor
  . rintro((rfl|h)|⟨y,h1,h2⟩)
    . exact .inr ⟨x,An,rfl⟩
    . exact .inl h
    . exact .inr ⟨y,Al _ h1,h2⟩
  . rintro(h|⟨y,h1,h2⟩)
    . exact .inl (.inr h)
    . rcases Ag.1 h1 with rfl|h1
      . exact .inl (.inl h2.symm)
      . exact .inr ⟨y,h1,h2⟩
theorem HW {l:List aa} {d:Bs}:d∈bR l↔∃x∈l,x.key.domain=d:=by
 unfold bR;rw[Fw];simp
theorem dU:∀{l:List aa},jU l=true↔l.Pairwise (fun a b=>bF a.key b.key=true)
 |[]=>by simp[jU]
 |[x]=>by simp[jU]
 |x::y::l=>by
  simp only[jU,Ab];rw[dU (l:=y::l),Bv (a:=x)];constructor
  . rintro⟨h1,h2⟩;refine⟨fun z hz=>?_,h2⟩;rcases Ag.1 hz with rfl|hz
    . exact h1
    . exact mw _ _ _ h1 ((Bv.1 h2).1 z hz)
  . rintro⟨h1,h2⟩;exact⟨h1 y An,h2⟩
theorem JI {l:List aa} {x:aa} (h:jU l=true):jU (dx l x)=true:=by
 have h:=dU.1 h;apply dU.2;unfold dx;rw[Dr];refine⟨h.sublist Dk,Bv.2 ⟨fun y hy=>(Au.1 hy).2,h.sublist Dk⟩,fun a ha b hb=>?_⟩;have ha:=(Au.1 ha).2;rcases Ag.1 hb with rfl|hb
 . exact ha
 . exact mw _ _ _ ha (Au.1 hb).2
theorem H8 (l:List aa):jU (fa l)=true:=by
 have:∀(l a:List aa),jU a=true->jU (l.foldl dx a)=true:=by
  intro l;induction l with
  |nil=>intro a h;exact h
  |cons x l ih=>intro a h;exact ih _ (JI h)
 exact this l [] rfl
section
variable [Inhabited aD]
theorem Gr:∀a b:Bs,lt a b=decide (a<b)
 |[],[]=>by decide
 |[],b::l=>by simp[lt,Op.bytesLess]
 |a::l,[]=>by simp[lt,Op.bytesLess]
 |a::l,b::m=>by
  have:=Gr l m;rw[Bh];simp only[lt,Op.bytesLess,BF,Ah,Ab,B6,List.cons_lt_cons_iff]at this⊢;rw[this];simp
def SK {H:Type} (D:DataW H) (L:List Bs):Prop:=∃es,D= .map es/\(∀p∈es,∃x,p.1= .string x)/\(es.map fun p=>strOf p.1).Nodup/\ ∀x,x∈es.map (fun p=>strOf p.1)↔x∈L
theorem iN {H:Type} {x p:Lit×DataW H}:∀{es:List (Lit×DataW H)},p∈DataW.insert x es↔p=x\/p∈es
 |[]=>by simp[DataW.insert]
 |y::r=>by
  unfold DataW.insert;split
  . simp
  . rw[Ag,iN (es:=r),Ag];constructor
    . rintro(h|h|h)
      . exact .inr (.inl h)
      . exact .inl h
      . exact .inr (.inr h)
    . rintro(h|h|h)
      . exact .inr (.inl h)
      . exact .inl h
      . exact .inr (.inr h)
theorem gf {H:Type} {x:Lit×DataW H}:∀{es:List (Lit×DataW H)},(DataW.insert x es).Perm (x::es)
 |[]=>List.Perm.refl _
 |y::r=>by
  unfold DataW.insert;split
  . exact List.Perm.refl _
  . exact((gf (es:=r)).cons y).trans (List.Perm.swap x y r)
theorem SK.start {H:Type}:SK (.map []:DataW H) []:=⟨[],rfl,by simp,by simp,by simp⟩
theorem SK.put {H:Type} {D:DataW H} {L:List Bs} (h:SK D L) (k:Bs) (d:DataW H) {L':List Bs} (hL:∀x,x∈L'↔x=k\/x∈L):SK (D.put (.string k) d) L':=by
 obtain⟨es,rfl,h1,h2,h3⟩:=h;refine⟨_,rfl,fun p hp=>?_,?_,fun x=>?_⟩
 . rcases iN.1 hp with rfl|hp
   . exact⟨k,rfl⟩
   . exact h1 p (Au.1 hp).1
 . have hp:=(gf (x:=(.string k,d)) (es:=es.filter fun p=> !p.1.sameKey (.string k))).map (fun p:Lit×DataW H=>strOf p.1);rw[hp.nodup_iff,AF,Dg];refine⟨fun hm=>?_,D5 (List.filter_sublist.map _) h2⟩;obtain⟨p,hp,he⟩:=Ar.1 hm;obtain⟨hp1,hp2⟩:=Au.1 hp;obtain⟨y,hy⟩:=h1 p hp1;rw[hy]at hp2 he;have he:y=k:=he;subst he;simp[Lit.sameKey]at hp2
 . rw[hL,<-h3,(gf.map (fun p:Lit×DataW H=>strOf p.1)).mem_iff,AF,Ag];constructor
   . rintro(h|h)
     . exact .inl h
     . obtain⟨p,hp,he⟩:=Ar.1 h;exact .inr (Ar.2 ⟨p,(Au.1 hp).1,he⟩)
   . rintro(h|h)
     . exact .inl h
     . by_cases e:x=k
       . exact .inl e
       . obtain⟨p,hp,he⟩:=Ar.1 h;refine .inr (Ar.2 ⟨p,Au.2 ⟨hp,?_⟩,he⟩);obtain⟨y,hy⟩:=h1 p hp;rw[hy]at he⊢;have he:y=x:=he;subst he;simp[Lit.sameKey,e]
theorem SK.keys {H:Type} {D:DataW H} {L:List Bs} (h:SK D L):(strKeys D).Nodup/\ ∀x,x∈strKeys D↔x∈L:=by
 obtain⟨es,rfl,_,h2,h3⟩:=h;exact⟨h2,h3⟩
theorem Ii {L:List Bs} {d:Bs} (h:L.Pairwise (fun a b=>lt a b=true)):(eU L d).Pairwise (fun a b=>lt a b=true):=by
 unfold eU;split
 . exact h
 . rename_i hne;have hd:∀x∈L.drop (cS L d),lt d x=true:=by
     intro x hx;have hlt:cS L d<L.length:=by
       apply BR;intro hn;rw[List.drop_eq_nil_of_le (by omega)]at hx
       cases hx
     have h0:lt L[cS L d] d=false:=uT (p:=fun x=>lt x d) (l:=L) hlt;have h1:lt d L[cS L d]=true:=by
       rcases ux L[cS L d] d with h|h|h
       . rw[h0]at h;cases h
       . exact absurd (by rw[Ae hlt,h]) hne
       . exact h
     rw[Dv hlt]at hx;rcases Ag.1 hx with rfl|hx
     . exact h1
     . have h2:(L.drop (cS L d)).Pairwise (fun a b=>lt a b=true):=h.sublist (List.drop_sublist _ _);rw[Dv hlt]at h2;exact lt_trans _ _ _ h1 ((Bv.1 h2).1 x hx)
   have ht:∀x∈L.take (cS L d),lt x d=true:=by
     intro x hx;obtain⟨j,hj,rfl⟩:=BP hx;have hj2:j<cS L d:=by simp at hj;omega
     obtain⟨g1,g2⟩:=uo (p:=fun x=>lt x d) (l:=L) (j:=j) hj2;simpa using g2
   rw[Dr];refine⟨h.sublist (List.take_sublist _ _),Bv.2 ⟨hd,h.sublist (List.drop_sublist _ _)⟩,fun a ha b hb=>?_⟩;rcases Ag.1 hb with rfl|hb
   . exact ht a ha
   . exact lt_trans _ _ _ (ht a ha) (hd b hb)
theorem yl (l:List aa):(bR l).Pairwise (fun a b=>lt a b=true):=by
 have:∀(l:List aa) (a:List Bs),a.Pairwise (fun a b=>lt a b=true)->(l.foldl (fun a x=>eU a x.key.domain) a).Pairwise (fun a b=>lt a b=true):=by
  intro l;induction l with
  |nil=>intro a h;exact h
  |cons x l ih=>intro a h;exact ih _ (Ii h)
 exact this l [] List.Pairwise.nil
theorem yn {H:Type} {D:DataW H} {l:List aa} (h:SK D (l.map fun x=>x.key.domain)) {ss:List Bs} (hs:ss.Perm (strKeys D)):ss.mergeSort (fun x y=>decide (x<=y))=bR l:=by
 obtain⟨h1,h2⟩:=h.keys;have hdn:(bR l).Nodup:=by
  rw[D2];exact(yl l).imp fun hab e=>by rw[e,lt_irrefl]at hab;cases hab
 have hp:ss.Perm (bR l):=hs.trans ((List.perm_ext_iff_of_nodup h1 hdn).2 fun x=>by rw[h2,HW,Ar]);rw[show(ss.mergeSort fun x y=>decide (x<=y))=(bR l).mergeSort leB from mergeSort_of_perm hp];apply List.mergeSort_of_pairwise;refine(yl l).imp fun hab=>?_
 rw[Gr,Ah]at hab;simp only[leB,Ah];exact List.le_of_lt hab
end
end Go.Proofs
namespace Go.Proofs
open Go.Shelf
def rN:Go.Shelf.Ren:=⟨fun|7=>101|10=>140|n=>n,fun|23=>135|26=>9|3=>3|28=>138|0=>0|27=>137|33=>167|4=>4|n=>n,fun|n=>n⟩
theorem sh:Go.Proofs.SlLaysZ.n7 Tryz.prog rN:={
 mixed:=by kernel_rfl
 f7:=⟨Tryz.f101.name,by decide,Tryz.func101.trans (Aq some (by kernel_rfl))⟩
 f10:=⟨Tryz.f140.name,by decide,Tryz.func140.trans (Aq some (by kernel_rfl))⟩
 t0:=Tryz.underlying0
 a0:=Tryz.isAgg0
 z0:=Tryz.sizeOf0
 v0:=Tryz.zeroValue0
 t4:=Tryz.underlying4
 a4:=Tryz.isAgg4
 z4:=Tryz.sizeOf4
 v4:=Tryz.zeroValue4
 t23:=Tryz.underlying135
 a23:=Tryz.isAgg135
 z23:=Tryz.sizeOf135
 v23:=Tryz.zeroValue135
 t26:=Tryz.underlying9
 a26:=Tryz.isAgg9
 z26:=Tryz.sizeOf9
 v26:=Tryz.zeroValue9
 t27:=Tryz.underlying137
 a27:=Tryz.isAgg137
 z27:=Tryz.sizeOf137
 v27:=Tryz.zeroValue137
 t28:=Tryz.underlying138
 a28:=Tryz.isAgg138
 z28:=Tryz.sizeOf138
 v28:=Tryz.zeroValue138
 t33:=Tryz.underlying167
 a33:=Tryz.isAgg167
 z33:=Tryz.sizeOf167
 v33:=Tryz.zeroValue167}
def rM:Go.Shelf.Ren:=⟨fun|6=>100|8=>138|9=>139|11=>169|13=>159|12=>170|23=>193|24=>194|14=>210|15=>211|16=>212|17=>213|18=>214|19=>215|20=>216|21=>217|22=>218|25=>245|26=>233|27=>234|28=>246|29=>247|30=>248|31=>257|n=>n,fun|26=>9|28=>138|24=>70|0=>0|3=>3|37=>187|48=>215|50=>217|4=>4|40=>209|39=>208|45=>153|5=>5|9=>9|51=>235|55=>239|57=>251|58=>252|33=>167|n=>n,fun|n=>n⟩
theorem Pk:Go.Proofs.SlLaysZ.n6 Tryz.prog rM:={
 mixed:=by kernel_rfl
 f6:=⟨Tryz.f100.name,by decide,Tryz.func100.trans (Aq some (by kernel_rfl))⟩
 f8:=⟨Tryz.f138.name,by decide,Tryz.func138.trans (Aq some (by kernel_rfl))⟩
 f11:=⟨Tryz.f169.name,by decide,Tryz.func169.trans (Aq some (by kernel_rfl))⟩
 t0:=Tryz.underlying0
 a0:=Tryz.isAgg0
 z0:=Tryz.sizeOf0
 v0:=Tryz.zeroValue0
 t24:=Tryz.underlying70
 a24:=Tryz.isAgg70
 z24:=Tryz.sizeOf70
 v24:=Tryz.zeroValue70
 t26:=Tryz.underlying9
 a26:=Tryz.isAgg9
 z26:=Tryz.sizeOf9
 v26:=Tryz.zeroValue9
 t28:=Tryz.underlying138
 a28:=Tryz.isAgg138
 z28:=Tryz.sizeOf138
 v28:=Tryz.zeroValue138
 i26:=by kernel_rfl}
def Pe:Go.Shelf.Ren:=⟨fun|6=>139|8=>159|9=>170|19=>193|20=>194|21=>210|22=>211|23=>212|24=>213|25=>214|26=>215|27=>216|28=>217|29=>218|36=>245|31=>233|32=>234|37=>246|38=>247|39=>248|41=>257|n=>n,fun|27=>70|29=>9|3=>3|32=>187|26=>70|0=>0|44=>215|46=>217|4=>4|36=>209|35=>208|41=>153|5=>5|9=>9|53=>235|57=>239|63=>251|64=>252|n=>n,fun|n=>n⟩
theorem si:Go.Proofs.SlLaysM.n6 Tryz.prog Pe:={
 mixed:=by kernel_rfl
 f6:=⟨Tryz.f139.name,by decide,Tryz.func139.trans (Aq some (by kernel_rfl))⟩
 f8:=Tryz.func159.trans (Aq some (by kernel_rfl))
 f9:=⟨Tryz.f170.name,by decide,Tryz.func170.trans (Aq some (by kernel_rfl))⟩
 f19:=Tryz.func193.trans (Aq some (by kernel_rfl))
 f20:=Tryz.func194.trans (Aq some (by kernel_rfl))
 f21:=⟨Tryz.f210.name,by decide,Tryz.func210.trans (Aq some (by kernel_rfl))⟩
 f22:=⟨Tryz.f211.name,by decide,Tryz.func211.trans (Aq some (by kernel_rfl))⟩
 f23:=⟨Tryz.f212.name,by decide,Tryz.func212.trans (Aq some (by kernel_rfl))⟩
 f24:=⟨Tryz.f213.name,by decide,Tryz.func213.trans (Aq some (by kernel_rfl))⟩
 f25:=⟨Tryz.f214.name,by decide,Tryz.func214.trans (Aq some (by kernel_rfl))⟩
 f26:=⟨Tryz.f215.name,by decide,Tryz.func215.trans (Aq some (by kernel_rfl))⟩
 f27:=⟨Tryz.f216.name,by decide,Tryz.func216.trans (Aq some (by kernel_rfl))⟩
 f28:=⟨Tryz.f217.name,by decide,Tryz.func217.trans (Aq some (by kernel_rfl))⟩
 f29:=⟨Tryz.f218.name,by decide,Tryz.func218.trans (Aq some (by kernel_rfl))⟩
 f31:=Tryz.func233.trans (Aq some (by kernel_rfl))
 f32:=Tryz.func234.trans (Aq some (by kernel_rfl))
 f36:=⟨Tryz.f245.name,by decide,Tryz.func245.trans (Aq some (by kernel_rfl))⟩
 f37:=⟨Tryz.f246.name,by decide,Tryz.func246.trans (Aq some (by kernel_rfl))⟩
 f38:=⟨Tryz.f247.name,by decide,Tryz.func247.trans (Aq some (by kernel_rfl))⟩
 f39:=⟨Tryz.f248.name,by decide,Tryz.func248.trans (Aq some (by kernel_rfl))⟩
 f41:=⟨Tryz.f257.name,by decide,Tryz.func257.trans (Aq some (by kernel_rfl))⟩
 t0:=Tryz.underlying0
 a0:=Tryz.isAgg0
 z0:=Tryz.sizeOf0
 v0:=Tryz.zeroValue0
 t3:=Tryz.underlying3
 a3:=Tryz.isAgg3
 z3:=Tryz.sizeOf3
 v3:=Tryz.zeroValue3
 t4:=Tryz.underlying4
 a4:=Tryz.isAgg4
 z4:=Tryz.sizeOf4
 v4:=Tryz.zeroValue4
 t5:=Tryz.underlying5
 a5:=Tryz.isAgg5
 z5:=Tryz.sizeOf5
 v5:=Tryz.zeroValue5
 t9:=Tryz.underlying9
 a9:=Tryz.isAgg9
 z9:=Tryz.sizeOf9
 v9:=Tryz.zeroValue9
 t26:=Tryz.underlying70
 a26:=Tryz.isAgg70
 z26:=Tryz.sizeOf70
 v26:=Tryz.zeroValue70
 t27:=Tryz.underlying70
 a27:=Tryz.isAgg70
 z27:=Tryz.sizeOf70
 v27:=Tryz.zeroValue70
 t29:=Tryz.underlying9
 a29:=Tryz.isAgg9
 z29:=Tryz.sizeOf9
 v29:=Tryz.zeroValue9
 t32:=Tryz.underlying187
 a32:=Tryz.isAgg187
 z32:=Tryz.sizeOf187
 v32:=Tryz.zeroValue187
 t35:=Tryz.underlying208
 a35:=Tryz.isAgg208
 z35:=Tryz.sizeOf208
 v35:=Tryz.zeroValue208
 t36:=Tryz.underlying209
 a36:=Tryz.isAgg209
 z36:=Tryz.sizeOf209
 v36:=Tryz.zeroValue209
 t41:=Tryz.underlying153
 a41:=Tryz.isAgg153
 z41:=Tryz.sizeOf153
 v41:=Tryz.zeroValue153
 t44:=Tryz.underlying215
 a44:=Tryz.isAgg215
 z44:=Tryz.sizeOf215
 v44:=Tryz.zeroValue215
 t46:=Tryz.underlying217
 a46:=Tryz.isAgg217
 z46:=Tryz.sizeOf217
 v46:=Tryz.zeroValue217
 t53:=Tryz.underlying235
 a53:=Tryz.isAgg235
 z53:=Tryz.sizeOf235
 v53:=Tryz.zeroValue235
 t57:=Tryz.underlying239
 a57:=Tryz.isAgg239
 z57:=Tryz.sizeOf239
 v57:=Tryz.zeroValue239
 t63:=Tryz.underlying251
 a63:=Tryz.isAgg251
 z63:=Tryz.sizeOf251
 v63:=Tryz.zeroValue251
 t64:=Tryz.underlying252
 a64:=Tryz.isAgg252
 z64:=Tryz.sizeOf252
 v64:=Tryz.zeroValue252}
end Go.Proofs
namespace Go.Proofs
open Go.RowKit Go.Maps Go.Sort Go.Shelf
-- maps.Keys[map[string]int,string,int] (function 101; its iterator 140) · slices.Sorted[string] (100) · slices.Sort[[]string,string] (139) · the map's type 135, the keys' 9
theorem Pt (m:Nat):AnyZ.SortsIn Tryz.prog rM Fence.wide m:=
  ⟨fun aN off cap ss W hH hblk hsz=>callsIn_wide.2 (AnyM.slices_Sort_string si aN off cap ss W hH hblk hsz),
   fun p cap W=>callsIn_wide.2 (AnyM.slices_Sort_string_none si p cap W)⟩
theorem oQ (mb:Option Nat) (W:World):CallsIn Fence.wide 5 Tryz.prog 101 #[.map mb] W fun e w'=>e= .returned (.func (.func 140) #[] #[.pointer (some ⟨W.heap.size,0,none⟩)])/\w'=W.alloc (.cells #[.map mb] 135):=
 AnyZ.keys_in sh Fence.wide 5 trivial rfl mb W
set_option maxHeartbeats 1000000 in
theorem yf {H:Type} (b nn:Nat) (D0:DataW H) (R:Value->Option (DataW H×List MemPlace)) (w:World) (hown:w.ownsMap Tryz.prog 9 R b nn D0) (hmax:Maps.size D0<=maxLen) (hbytes:Maps.size D0*16<=140737488355328):
  CallsIn Fence.wide 5 Tryz.prog 100 #[.func (.func 140) #[] #[.pointer (some ⟨w.heap.size,0,none⟩)]] (w.alloc (.cells #[.map (some b)] 135)) fun e w'=>∃(v:Value) (ss:List (List UInt8)),e= .returned v/\ss.Perm (strKeys D0)/\
   w'.ownsRow (w.alloc (.cells #[.map (some b)] 135)).heap.size 9 1 v ss.length ((ss.mergeSort (fun x y=>decide (x<=y))).map encStr)/\(v= .slice none 0 0↔ss=[])/\Below (w.alloc (.cells #[.map (some b)] 135)).heap.size (w.alloc (.cells #[.map (some b)] 135)) w':=by
 have hbl:=hown.lt;have hseq:SeqGives Fence.wide 2 Tryz.prog 140 #[.pointer (some ⟨w.heap.size,0,none⟩)] encStr (fun ss=>ss.Perm (strKeys D0)) (Maps.size D0) (w.alloc (.cells #[.map (some b)] 135)):=
  AnyZ.keys_gives (ρ:=rN) {sh with} Fence.wide _ trivial rfl (by omega) w.heap.size b nn D0 _ (by simp) (by simp) (by
   obtain⟨es,clock,hb,Ft,hs,hD⟩:=hown;exact⟨es,clock,(Below.heap_alloc _ _ b hbl).trans hb,Ft,hs,hD⟩)
 exact AnyZ.sorted_in Pk Fence.wide 5 trivial trivial trivial trivial rfl (by omega) (Pt _) (enters_of Tryz.func139 (by kernel_rfl) rfl) 140 #[.pointer (some ⟨w.heap.size,0,none⟩)] trivial (enters_of Tryz.func140 (by kernel_rfl) rfl) _ _ hmax hbytes _ hseq
-- THE CALLER's WALK over 'slices.Sorted(maps.Keys(m))' (inside '(callsIn_wide (n := 6)).1'; 'have hfK : Fence.wide.fn 101 := trivial', 'have hfS : Fence.wide.fn 100 := trivial' ahead): THE TWO ARMS TO PASTE:
--   gi_wp2_with (first
--     | (gi_at_call 101; refine (oQ _ _).mono ?_; rintro e w' ⟨rfl, rfl⟩)
--     | (gi_at_call 100; refine (yf b nn D0 R w hown hmax hbytes).mono ?_; rintro e w' ⟨v, ss, rfl, hS, hrow, hnil, hb⟩))
-- maps.Keys[map[biscotti/api.lH]int,biscotti/api.lH,int]: its keys are of no string's kind: not laid by this program
end Go.Proofs
namespace Go.Proofs
open Go Go.Am Go.RowKit Go.Sy
section
variable [Inhabited aD]
def xB (l:List aa):Prop:=∀x∈l,x.key.domain.length<=1000000
def Ge:aP:={Y:=List aa,pre:=fun y=>nQ y/\xB y,args:=fun y=>[eH y],res:=fun y=>strs (bR y)}
noncomputable def GO (f:FuncId):Option aP:=bif Nat.beq f rR then some Ge else xS f
def oB (x:aa):Bool:=decide (x.key.name.length<=300)&&decide (x.key.domain.length<=300)&&decide (x.key.path.length<=300)&&decide (x.ab.value.length<=300)
end
end Go.Proofs
namespace Go.Proofs
open Go Go.Am Go.RowKit Go.Sy Go.Maps Go.Sort Go.Shelf Go.WideMaps
section
variable [Inhabited aD]
theorem Hn:Keyed Tryz.prog 9:=string_keyed Tryz.underlying9
theorem PZ (w:World):(zeroValue 3).run Tryz.prog w= .ok (.int .i64 0) w:=by kernel_rfl
theorem MX {s:Bs} (h:s.length<=maxLen):keyOf Tryz.prog 9 (aV s)=some (.string s):=by
 have:=keyOf_string_mk (s:=⟨s.toArray⟩) Tryz.underlying9 (by simpa [ByteArray.size]using h);simpa using this
theorem rowAt.cells {w:World} {b off:Nat} {l:List aa} (h:rowAt w b off l) {i:Nat} {x:aa} (hx:l[i]? =some x):
  w.cell? ⟨b,off+i*11,none⟩=some (aV x.key.name)/\w.cell? ⟨b,off+i*11+1,none⟩=some (aV x.key.domain)/\w.cell? ⟨b,off+i*11+2,none⟩=some (aV x.key.path)/\
  w.cell? ⟨b,off+i*11+3,none⟩=some (aV x.ab.value)/\w.cell? ⟨b,off+i*11+4,none⟩=some (.bool x.ab.aH)/\w.cell? ⟨b,off+i*11+5,none⟩=some (.bool x.ab.aZ)/\
  w.cell? ⟨b,off+i*11+6,none⟩=some (.bool x.ab.aI)/\w.cell? ⟨b,off+i*11+7,none⟩=some (.bool x.ab.persistent)/\w.cell? ⟨b,off+i*11+8,none⟩=some (.int .i64 x.ab.aW)/\
  w.cell? ⟨b,off+i*11+9,none⟩=some (.int .i64 x.ab.aG)/\w.cell? ⟨b,off+i*11+10,none⟩=some (.int .i64 x.ab.access):=
 ⟨h i x 0 _ hx rfl,h i x 1 _ hx rfl,h i x 2 _ hx rfl,h i x 3 _ hx rfl,h i x 4 _ hx rfl,h i x 5 _ hx rfl,h i x 6 _ hx rfl,h i x 7 _ hx rfl,h i x 8 _ hx rfl,h i x 9 _ hx rfl,h i x 10 _ hx rfl⟩
theorem Qb {b off cap:Nat} {l:List aa} {w:World} (hlen:l.length<=10000) (hb:b<w.heap.size) (hrow:rowAt w b off l) (hsz:∀x∈l,x.key.domain.length<=maxLen):
  Calls Tryz.prog 54 #[.slice (some ⟨b,off,none⟩) l.length cap] w fun e w'=>∃v,e= .returned v/\w'.ownsRow w.heap.size 9 1 v (bR l).length ((bR l).map aV)/\Below w.heap.size w w':=by
 have hmm:= @run_makeMap Tryz.prog;go_enter Tryz.func54,Tryz.ntmps54
 go_wp2;go_loopw [9] (fun i wr=>∃(k:Nat) (D:DataW Unit),k<=l.length/\i= .int .i64 k/\wr.ownsMap Tryz.prog 9 (plainElem Tryz.prog 3) w.heap.size k D/\SK D ((l.take k).map fun x=>x.key.domain)/\Below w.heap.size w wr)
  (fun i _=>l.length - (intOf i).toNat)
 case atStart=>exact⟨0, .map [],Bf _,rfl,World.ownsMap_made _ _ _ _,SK.start,(Below.refl _ _).alloc (Af _) _⟩
 case round=>
  obtain⟨k,D,hk,rfl,hown,hsk,hnx⟩:=hrel;by_cases hlt:k<l.length
  . obtain⟨x,hx⟩:∃x,l[k]? =some x:=⟨_,Ae hlt⟩;obtain⟨c0,c1,c2,c3,c4,c5,c6,c7,c8,c9,c10⟩:=(hrow.below hnx hb).cells hx;have hxm:x∈l:=BC hx;have hkey:keyOf Tryz.prog 9 (aV x.key.domain)=some (.string x.key.domain):=MX (hsz x hxm);have hbel:∀o,Below w.heap.size w (wr.alloc o):=fun o=>hnx.alloc hnx.size o
    go_wp2_with (first
      |(at_lookup;refine wpList_lookup_own_int _ rfl _ _ 135 rfl 9 3 .i64 Hn Tryz.underlying135 Tryz.underlying3 (PZ _) w.heap.size k _ rfl (hown.alloc _) _ _ rfl hkey ?_;intro c hat hwc)
      |(at_mapUpdate;refine wpList_mapUpdate_own _ rfl _ _ _ 135 rfl 9 3 Hn Tryz.underlying135 _ w.heap.size k _ rfl (hown.alloc _) (by unfold maxLen;omega) _ _ _ rfl rfl hkey _ [] (plainElem_int Tryz.underlying3 (wrap64_wf _)) ?_;intro w1 hown1 hgrow1)
      |go_in)
    have R1:=hsk.put (x.key.domain) (.lit (.int .i64 (wrap64 (c+1)))) (L':=(l.take (k+1)).map fun x=>x.key.domain) (fun d=>by
      rw[List.take_add_one,hx];simp;exact or_comm)
    have R2:=(hbel _).grown hgrow1 (hbel _).size (fun j hj=>by cases hj;exact Af _);clear hown hsk c0 c1 c2 c3 c4 c5 c6 c7 c8 c9 c10 hbel hgrow1;go_roundw
    case rel=>exact⟨k+1,_,by omega,by go_num,hown1,R1,R2⟩
    case measure=>simp[intOf];omega
  . have hkl:k=l.length:=by omega
    subst hkl;rw[Bz]at hsk;have hks:=hsk.keys;have hsize:Maps.size D<=l.length:=hown.size_le;have hkeys:=fun W=>callsIn_wide.1 (oQ (some w.heap.size) W)
    have hsort:=callsIn_wide.1 (yf w.heap.size l.length D (plainElem Tryz.prog 3) wr hown (by unfold maxLen;omega) (by omega));go_wp2_with (first
      |(go_at_call 101;refine(hkeys _).mono ?_;rintro e w1 ⟨rfl,rfl⟩)
      |(go_at_call 100;refine hsort.mono ?_;rintro e w2 ⟨v,ss,rfl,hS,hrowS,hnil,hbelS⟩))
    go_ret;have hd:=yn hsk hS;refine⟨_,rfl,?_,?_⟩
    . rw[hd]at hrowS;have hl:ss.length=(bR l).length:=by rw[<-hd];simp
      have he:(encStr:Bs->Value)=aV:=by funext s;simp[encStr]
      rw[hl,he]at hrowS;exact ownsRow_base_a hrowS (by have:=hnx.size;simp;omega)
    . exact(hnx.alloc hnx.size _).trans (hbelS.mono (by have:=hnx.size;simp;omega))
theorem QC (a:Option Addr) (c:Nat) (w:World):Calls Tryz.prog 54 #[.slice a 0 c] w fun e w'=>∃v,e= .returned v/\w'.ownsRow w.heap.size 9 1 v 0 []/\Below w.heap.size w w':=by
 have hmm:= @run_makeMap Tryz.prog;obtain⟨D,hown0,hsk⟩:∃D:DataW Unit,(w.alloc (.map #[] 0)).ownsMap Tryz.prog 9 (plainElem Tryz.prog 3) w.heap.size 0 D/\SK D []:=⟨.map [],World.ownsMap_made _ _ _ _,SK.start⟩;have hbel0:Below w.heap.size w (w.alloc (.map #[] 0)):=(Below.refl _ _).alloc (Af _) _;go_enter Tryz.func54,Tryz.ntmps54
 go_wp2;refine wp_loop_rounds 1 ?_;rw[rounds_succ];generalize w.alloc (.map #[] 0)=wr at*
 have hsize:Maps.size D<=0:=hown0.size_le;have hkeys:=fun W=>callsIn_wide.1 (oQ (some w.heap.size) W)
 have hsort:=callsIn_wide.1 (yf w.heap.size 0 D (plainElem Tryz.prog 3) wr hown0 (by unfold maxLen;omega) (by omega));go_wp2_with (first
  |(go_at_call 101;refine(hkeys _).mono ?_;rintro e w1 ⟨rfl,rfl⟩)
  |(go_at_call 100;refine hsort.mono ?_;rintro e w2 ⟨v,ss,rfl,hS,hrowS,hnil,hbelS⟩))
 go_ret;have hd:=yn (l:=[]) hsk hS;have hl:ss.length=0:=by
  have:=Aq List.length hd;simpa [bR]using this
 rw[hd,hl]at hrowS;exact⟨_,rfl,ownsRow_base_a hrowS (by have:=hbel0.size;simp;omega),(hbel0.alloc hbel0.size _).trans (hbelS.mono (by have:=hbel0.size;simp;omega))⟩
theorem JA (hdr:¬(default:aD).dr):CO rR Ge:=j8 ch.ok (by
 rintro l ⟨hl,hsh⟩ w args - hargs;obtain⟨h1,h2⟩:=hargs;match args,h1 with
 |[v],_=>
 rcases wN (h2 0 _ _ rfl rfl)with⟨rfl,a,c,rfl⟩|⟨b,off,cap,rfl,hb,hrow,_⟩
 . exact(QC a c w).mono fun e w' ⟨v,he,hr,hbel⟩=>⟨v,he, .inr (FU hr),hbel,fun h=>(hdr h).elim⟩
 . exact(Qb hl hb hrow fun x hx=>by have:=hsh x hx;unfold maxLen;omega).mono fun e w' ⟨v,he,hr,hbel⟩=>⟨v,he, .inr (FU hr),hbel,fun h=>(hdr h).elim⟩)
end
end Go.Proofs
