/- Part 3: an evaluator, proved sound, and its use at this seat; no condition. -/
import Derived.Calls
import Derived.KernelRfl
import Derived.Lib.Bytealg
import Derived.Test.YtpbnfcmlcmiieaaGreatDoorP1
import Derived.Test.YtpbnfcmlcmiieaaGreatDoorP2
set_option linter.unusedSimpArgs false
set_option linter.unusedVariables false
set_option linter.unusedSectionVars false
set_option linter.deprecated false
set_option maxRecDepth 100000
set_option maxHeartbeats 4000000
namespace Go.Sy
open Go.Am Go.RowKit
section
universe u v
variable [Inhabited aE]
section
variable {P:Program} {tab:aM} {cfg:eZ} {ops:Array Oper} {nt:Nat} {rec:SM->(SV->St->Prop)->Prop}
theorem EH {p:Nat}:∀{l:List Ev},p∈gm l->∃e∈l,e.id=p:=by
 intro l;induction l with
 |nil=>intro h;cases h
 | cons e l ih=>
  intro h
  cases e with
  |kill b=>
   rcases An.1 h with rfl|h
   . exact⟨_,Al,rfl⟩
   . obtain⟨e,h1,h2⟩:=ih h;exact⟨e,Ap _ h1,h2⟩
  |mod b=>
   rcases An.1 h with rfl|h
   . exact⟨_,Al,rfl⟩
   . obtain⟨e,h1,h2⟩:=ih h;exact⟨e,Ap _ h1,h2⟩
  |dy b X L enc=>obtain⟨e,h1,h2⟩:=ih h;exact⟨e,Ap _ h1,h2⟩
theorem xY {log:List Ev} {b:Nat} (h:(!(bx b (log.map Ev.id)))=true):∀e∈log,e.id≠b:=by
 intro e he hb;have:bx b (log.map Ev.id)=true:=bO.2 (A1.2 ⟨e,he,hb⟩);rw[this]at h;cases h
theorem HS.bare {C C':Cx} {h h':SH} {a h1:AH} {log:List Ev} {hid hidA:List (Nat×Nat)} (H:HS tab C h a) (hal:gE C h hid hidA) (hT:Tr C log C') (H':HS tab C' h' h1) (hG:Grow (eU a hidA) h1) (hm:∀x∈hid,∀e∈log,e.id≠x.2):
   HS tab C' (gV h' h log hid) (restore h1 a hidA)/\(∀i b,h1.get i=some b->(restore h1 a hidA).get i=h1.get i)/\(∀y∈hidA,h1.get y.2=none)/\(∀x∈hid,∀o I,h.get x.2=some o->C.ρ x.2=some I->I.cap.isSome->(restore h1 a hidA).get I.β=a.get I.β/\ ∃o',(gV h' h log hid).get x.2=some o'/\C'.ρ x.2=some I):=by
 have hlt:∀y∈hidA,y.2<a.next:=by
   intro y hy;obtain⟨x,hx,o,I,g1,g2,g3,g4⟩:=hal.right y hy;obtain⟨b,hb⟩:=(H.at_ g1 g2).live g3;rw[<-g4];exact H.wf _ _ hb
 have hnone:∀y∈hidA,h1.get y.2=none:=by
   intro y hy
   cases hz:h1.get y.2 with
   |none=>rfl
   | some b=>
     rcases hG.old _ _ hz with⟨o0,h0⟩|hge
     . rw[eV,Ai ⟨y,hy,rfl⟩]at h0;cases h0
     . rw[fw]at hge;have:=hlt y hy;omega
 have hlive:∀i b,h1.get i=some b->(restore h1 a hidA).get i=h1.get i:=by
   intro i b hi;rw[jA,Ae];rintro⟨y,hy,rfl⟩;rw[hnone y hy]at hi;cases hi
 have hhid:∀x∈hid,∀o I,h.get x.2=some o->C.ρ x.2=some I->I.cap.isSome->(restore h1 a hidA).get I.β=a.get I.β/\h1.get I.β=none/\ ∃o',(gV h' h log hid).get x.2=some o'/\C'.ρ x.2=some I/\cK tab C' I o' (restore h1 a hidA):=by
   intro x hx o I ho hI hc;obtain⟨o1,I1,g1,g2,g3,y,hy,g4⟩:=hal.left x hx;rw[hI]at g2;cases g2;have e1:(restore h1 a hidA).get I.β=a.get I.β:=by rw[jA,Ai ⟨y,hy,g4⟩]
   obtain⟨o',k1,k2⟩:=Gg o log;refine⟨e1,by rw[<-g4];exact hnone y hy,o',?_,hT.same hI hc (hm x hx),k2 hT e1 (H.at_ ho hI)⟩;rw[k9,Ai ⟨x,hx,rfl⟩,ho];exact k1
 refine⟨⟨?_,?_,?_,?_,?_,?_⟩,hlive,hnone,fun x hx o I ho hI hc=>?_⟩
 . intro p o hp;rw[k9]at hp;split at hp
   . rename_i hex;obtain⟨x,hx,rfl⟩:=hex;obtain⟨o1,I1,g1,g2,g3,_⟩:=hal.left x hx;obtain⟨_,_,o',k1,k2,k3⟩:=hhid x hx o1 I1 g1 g2 g3;rw[k9,Ai ⟨x,hx,rfl⟩,hp]at k1
     cases k1;exact⟨I1,k2,k3⟩
   . obtain⟨I,hI,ho⟩:=H'.obj p o hp;refine⟨I,hI,?_⟩;by_cases hc:I.cap.isSome
     . obtain⟨b,hb⟩:=ho.live hc;exact ho.congr (hlive _ _ hb)
     . cases o with
       |cells cs t=>exact absurd ho.1 hc
       |arr X L enc t=>
        obtain⟨g1,g2,g3,g4,g5⟩:=ho;refine⟨g1,g2,g3,g4,?_⟩
        cases hcap:I.cap with
        |none=>rw[hcap]at g5;exact g5
        |some c=>rw[hcap]at hc;simp at hc
 . have key:∀p q o' I J,(∃x∈hid,x.2=p)->h'.get q=some o'->C'.ρ p=some I->C'.ρ q=some J->I.cap.isSome->J.cap.isSome->I.β≠J.β:=by
     rintro p q o' I J ⟨x,hx,rfl⟩ hq hI hJ hc hc' e;obtain⟨o1,I1,g1,g2,g3,_⟩:=hal.left x hx;obtain⟨_,k0,_,_,k2,_⟩:=hhid x hx o1 I1 g1 g2 g3;rw[hI]at k2;cases k2;obtain⟨b,hb⟩:=(H'.at_ hq hJ).live hc';rw[<-e,k0]at hb;cases hb
   intro p q o o' I J hp hq hI hJ hc hc' e;rw[k9]at hp hq;split at hp
   . rename_i h3;split at hq
     . rename_i h4;obtain⟨x,hx,rfl⟩:=h3;obtain⟨z,hz,rfl⟩:=h4;obtain⟨o1,I1,g1,g2,g3,_⟩:=hal.left x hx;obtain⟨_,_,_,_,k2,_⟩:=hhid x hx o1 I1 g1 g2 g3;obtain⟨o2,I2,q1,q2,q3,_⟩:=hal.left z hz;obtain⟨_,_,_,_,k3,_⟩:=hhid z hz o2 I2 q1 q2 q3;rw[hI]at k2;cases k2;rw[hJ]at k3;cases k3;exact H.inj _ _ o1 o2 I J g1 q1 g2 q2 g3 q3 e
     . exact absurd e (key p q o' I J h3 hq hI hJ hc hc')
   . split at hq
     . rename_i h4;exact absurd e.symm (key q p o J I h4 hp hJ hI hc' hc)
     . exact H'.inj p q o o' I J hp hq hI hJ hc hc' e
 . intro i o hi;have:=H'.fz i o hi;rw[hlive i o this];exact this
 . intro p o I hp hI hc;rw[k9]at hp;split at hp
   . rename_i h3;obtain⟨x,hx,rfl⟩:=h3;obtain⟨o1,I1,g1,g2,g3,_⟩:=hal.left x hx;obtain⟨_,k0,_,_,k2,_⟩:=hhid x hx o1 I1 g1 g2 g3;rw[hI]at k2;cases k2
     cases hz:C'.Fz I.β with
     |none=>rfl
     | some b=>
       have:=H'.fz _ _ hz;rw[k0]at this;cases this
   . exact H'.dj p o I hp hI hc
 . intro p I hI;rw[EO];exact H'.lt p I hI
 . intro i o hi;rw[mj];rw[jA]at hi;split at hi
   . have:=H.wf i o hi;have h2:=hG.next;rw[fw]at h2;omega
   . exact H'.wf i o hi
 . obtain⟨k1,_,o',k2,k3,_⟩:=hhid x hx o I ho hI hc;exact⟨k1,o',k2,k3⟩
end
end
section
universe u v
variable [Inhabited aE]
section
variable {P:Program} {tab:aM} {cfg:eZ} {ops:Array Oper} {nt:Nat} {rec:SM->(SV->St->Prop)->Prop}
theorem Iz (htab:cfg.tab=tab) (hrec:jR P tab rec) (hcon:∀g C,cfg.cJ g=some C->bq P tab g C) {C:Cx} {d:SD} {e:DS} {i:Nat} {o:Oper} {K:SD->Prop} (h:kS cfg rec ops nt i o d K) (S:fK tab ops C d e):
   jm P tab ops nt i o e fun e'=>∃d' C' new,K d'/\fK tab ops C' d' e'/\Prog C d e new C' d' e':=by
 obtain⟨s,ax,reads,ai⟩:=d;obtain⟨hF,H,hanc,hal,hrd⟩:=S;simp only at hF H hanc hal hrd;subst hanc;simp only[kS]at h;obtain⟨hok,h⟩:=bC h;obtain⟨w,s1,h1,hw,hF1,eh,el⟩:=sg h hF;clear h;obtain⟨rfl,h1⟩:=bC h1;have h:=iz (iz (pE (iz h1)));clear h1;obtain⟨ts,hh,log⟩:=s1;simp only at h eh el hF1;subst eh;have halh:=hal.filter (fun j=> !(bx j (cI e.ax o)));generalize hhd:(ai.filter fun x=> !(bx x.1 (cI e.ax o)))=hid at h halh
 generalize hhA:(e.ai.filter fun x=> !(bx x.1 (cI e.ax o)))=hidA at halh
 have hnot:∀p o' I,s.h.get p=some o'->C.ρ p=some I->I.cap.isSome->(¬∃x∈hid,x.2=p)->¬∃y∈hidA,y.2=I.β:=by
   rintro p o' I hp hI hc hn ⟨y,hy,hyb⟩;obtain⟨x,hx,ox,Ix,x1,x2,x3,x4⟩:=halh.right y hy;exact hn ⟨x,hx,(H.inj p x.2 o' ox I Ix hp x1 hI x2 hc x3 (by rw[x4,hyb])).symm⟩
 have hfz:∀j ob,C.Fz j=some ob->¬∃y∈hidA,y.2=j:=by
   rintro j ob hj ⟨y,hy,rfl⟩;obtain⟨x,hx,ox,Ix,x1,x2,x3,x4⟩:=halh.right y hy;have:=H.dj x.2 ox Ix x1 x2 x3;rw[x4,hj]at this;cases this
 have Hh:HS tab C (jS s.h hid) (eU e.h hidA):=by
   refine H.part (E3 _ _) (fun p o' hp=>?_) (fun j ob hj=>?_) (fw _ _) (fun j ob hj=>?_) (fun p o' I hp hI hc=>?_)
   . rw[pF]at hp;split at hp
     . cases hp
     . exact hp
   . rw[eV]at hj;split at hj
     . cases hj
     . exact hj
   . rw[eV,Ae (hfz j ob hj)];exact H.fz j ob hj
   . rw[pF]at hp;split at hp
     . cases hp
     . rename_i hn;rw[eV,Ae (hnot p o' I hp hI hc hn)]
 have heff:=wN (s:=⟨ts,jS s.h hid,[]⟩) (ta:=e.ts) htab hrec hcon h hF1 Hh;refine⟨hok,hw,?_⟩;rw[hhA];refine heff.mono ?_;rintro v h1 hle ⟨sv,s',hk,⟨⟨C',new,e1,e2,e3,e4,e5,e6⟩,e7⟩⟩;obtain⟨ts',h',log'⟩:=s';simp only[BC]at e1 hk e4 e5;subst e1;obtain⟨hck,hk⟩:=bC hk;simp only[Ab,Av]at hck;obtain⟨hck1,hck2⟩:=hck;obtain⟨B1,B2,B3,B4⟩:=H.bare halh e2 e4 e7 (fun x hx=>xY (hck2 x hx));obtain⟨s2,k1,k2,k3,k4⟩:=mA (s:=⟨ts',gV h' s.h log' hid,log++log'⟩) hk e5 e3;have hread:∀x∈e.reads.filter (fun x=> !(bx x.1 (cI e.ax o))),∃rs,(x.1,rs)∈reads.filter (fun x=> !(bx x.1 (cI e.ax o)))/\l8 tab ops C s.h e.h x rs/\
     ∀p∈rs,(∀e∈log',e.id≠p)/\(h'.get p).isSome/\ ¬∃y∈hid,y.2=p:=by
   intro x hx;obtain⟨hx1,hx2⟩:=AL.1 hx;obtain⟨rs,g1,g2⟩:=hrd x hx1;have hm:(x.1,rs)∈reads.filter (fun x=> !(bx x.1 (cI e.ax o))):=AL.2 ⟨g1,hx2⟩;refine⟨rs,hm,g2,fun p hp=>?_⟩;have h5:=hck1 _ hm p hp;refine⟨xY h5.1.1,h5.1.2,?_⟩;rintro⟨y,hy,rfl⟩;have h6:=h5.2 y hy;simp at h6
 have hkeep:∀p o' I,s.h.get p=some o'->C.ρ p=some I->I.cap.isSome->(∀e∈log',e.id≠p)->(h'.get p).isSome->(¬∃y∈hid,y.2=p)->
     (restore h1 e.h hidA).get I.β=e.h.get I.β/\ ∃o',(gV h' s.h log' hid).get p=some o'/\C'.ρ p=some I:=by
   intro p o' I hp hI hc hm hs hn;obtain⟨k,_⟩:=e6 p o' I (by simp only;rw[pF,Ae hn];exact hp) hI hc (fun hmm=>by
     obtain⟨e',he',hid'⟩:=EH hmm;exact hm e' he' hid')
   rw[eV,Ae (hnot p o' I hp hI hc hn)]at k;obtain⟨o2,ho2⟩:=Bz.1 hs;refine⟨?_,o2,by rw[k9,Ae hn];exact ho2,e2.same hI hc hm⟩;rw[jA,Ae (hnot p o' I hp hI hc hn)];exact k
 have hstb:∀x∈e.reads.filter (fun x=> !(bx x.1 (cI e.ax o))),∃rs,(x.1,rs)∈reads.filter (fun x=> !(bx x.1 (cI e.ax o)))/\l8 tab ops C' (gV h' s.h log' hid) (restore h1 e.h hidA) x rs:=by
   intro x hx;obtain⟨rs,g1,g2,g3⟩:=hread x hx;exact⟨rs,g1,g2.mono e2.fz fun p hp o' I hpo hI hc=>hkeep p o' I hpo hI hc (g3 p hp).1 (g3 p hp).2.1 (g3 p hp).2.2⟩
 refine⟨F6 fun x hx=>?_,_,C',log',k1,⟨?_,?_,rfl,?_,?_⟩,⟨?_,e2,?_,?_⟩⟩
 . obtain⟨rs,g1,g2,g3⟩:=hread x hx;obtain⟨ox,a0,hx1,q1,q2,q3,qb,q4,q5⟩:=g2;refine⟨ox,_,q1,rD q2 q3 (h:=eU (restore h1 e.h hidA) hidA) (fun β ob hβ=>?_) q4,qb⟩;rcases q5 β ob hβ with hz|⟨hz,p,hp,o',I,p1,p2,p3,rfl⟩
   . rw[eV,Ae (hfz β ob hz),jA,Ae (hfz β ob hz)];exact e4.fz _ _ (e2.fz _ _ hz)
   . obtain⟨r1,r2,r3⟩:=g3 p hp;rw[eV,Ae (hnot p o' I p1 p2 p3 r3),(hkeep p o' I p1 p2 p3 r1 r2 r3).1];exact hz
 . simp only;rw[o8];exact k2
 . simp only;rw[k3];exact B1
 . simp only;rw[k3];exact halh.mono fun x hx o' I hp hI hc=>(B4 x hx o' I hp hI hc).2
 . simp only;rw[k3];exact hstb
 . simp only;rw[k4];simp only;rw[el]
 . refine⟨?_,fun j ob hj=>?_⟩
   . simp only;rw[mj];have:=e7.next;rw[fw]at this;exact this
   . simp only at hj;rw[jA]at hj;split at hj
     . exact .inl ⟨ob,hj⟩
     . rcases e7.old j ob hj with⟨o0,h0⟩|hge
       . rw[eV]at h0;split at h0
         . cases h0
         . exact .inl ⟨o0,h0⟩
       . rw[fw]at hge;exact .inr hge
 . simp only;rw[k3];intro p o' I hp hI hc hm;by_cases hn:∃y∈hid,y.2=p
   . obtain⟨y,hy,rfl⟩:=hn;obtain⟨q1,q2⟩:=B4 y hy o' I hp hI hc;exact⟨q1, .inl q2⟩
   . obtain⟨q1,q2⟩:=e6 p o' I (by simp only;rw[pF,Ae hn];exact hp) hI hc hm;rw[eV,Ae (hnot p o' I hp hI hc hn)]at q1;refine⟨by rw[jA,Ae (hnot p o' I hp hI hc hn)];exact q1,?_⟩;rcases q2 with⟨o2,r1,r2⟩|r
     . exact .inl ⟨o2,by simp only;rw[k9,Ae hn];exact r1,r2⟩
     . exact .inr r
theorem GJ (htab:cfg.tab=tab) (hrec:jR P tab rec) (hcon:∀g C,cfg.cJ g=some C->bq P tab g C):sQ P tab cfg rec:=by
 have main:∀(ops:Array Oper) (nt n:Nat) (d:SD) (e:DS) (C:Cx) (K:St->Prop),ot cfg rec ops nt n d K->fK tab ops C d e->
   dQ P tab ops nt (fun sF=>∃s' C' new,K s'/\s'.log=d.s.log++new/\Tr C new C'/\HS tab C' s'.h sF.h/\FS C' s'.ts sF.ts/\Grow e.h sF.h/\bS C d.s.h e.h new C' s'.h sF.h) n e:=by
  intro ops nt n;induction n with
  |zero=>intro d e C K h;exact h.elim
  |succ n ih=>
   intro d e C K h S;simp only[ot]at h;obtain⟨e1,d1,C1,g1,g2,g3,g4⟩:=HI htab ops.toList 0 d e C _ (fun j o hj=>by simpa using hj) h S;refine⟨e1,g1,?_⟩;rw[g3.ax]at g2;split at g2
   . rename_i hc;obtain⟨_,hk⟩:=bC g2;exact .inl ⟨hc,d1.s,C1,[],hk,g4.log,g4.tr,g3.H,g3.F,g4.grow,g4.bI⟩
   . rename_i c o hc;refine .inr ⟨c,o,hc,?_⟩;obtain⟨q1,q2,q3⟩:=Iz htab hrec hcon g2 g3;refine⟨q1,q2,q3.mono fun v h1 _ hΘ=>⟨hΘ.1,?_⟩⟩;obtain⟨d2,C2,new,k1,k2,k3⟩:=hΘ.2;refine dQ.mono ?_ _ _ (ih d2 _ C2 K k1 k2);rintro sF ⟨s',C',new',r1,r2,r3,r4,r5,r6,r7⟩;have p:=g4.trans k3 g3.H.fz k2.H.fz;simp only[BC]at p;exact⟨s',C',new++new',r1,by rw[r2,p.log,BA],p.tr.trans r3,r4,r5,p.grow.trans r6,p.bI.trans r7 r3.fz k2.H.fz r4.fz⟩
   . exact g2.elim
 intro ops nt n s K ta a C h hF H;exact main ops nt n ⟨s, .e,[],[]⟩ {ts:=ta,h:=a,ax:= .e,reads:=[],ai:=[]} C K h ⟨hF,H,rfl,trivial,fun x hx=>by cases hx⟩
theorem JA (pr:eE P tab) (htab:cfg.tab=tab) (hcon:∀g C,cfg.cJ g=some C->bq P tab g C) (n:Nat):jR P tab (wp cfg n):=
 Ha pr htab hcon (fun _ hrec=>GJ htab hrec hcon) n
end
end
section
universe u v
variable [Inhabited aE]
section
variable (cfg:eZ)
def lF (e v:SV) (s:St):Prop:=
 match s with
 |⟨_,h,_⟩=>match e,v with
  | .aO es, .aO vs=>cF cfg 1000 es vs ⟨[],h,[]⟩ fun _=>True
  | .aO _,_=>False
  |e,v=>cF cfg 1000 [e] [v] ⟨[],h,[]⟩ fun _=>True
end
section
variable {P:Program} {tab:aM} {cfg:eZ}
theorem IL (htab:cfg.tab=tab) {e v:SV} {s:St} (h:lF cfg e v s) {C:Cx} {a:AH} {av:AV} (H:HS tab C s.h a) (hv:au C v av):∃Fz':Nat->Option AO,(∀i o,C.Fz i=some o->Fz' i=some o)/\(∀i o,Fz' i=some o->a.get i=some o)/\aC Fz' e av:=by
 obtain⟨ts,hh,log⟩:=s;have one:∀(e v:SV),cF cfg 1000 [e] [v] ⟨[],hh,[]⟩ (fun _=>True)->au C v av->∃Fz':Nat->Option AO,(∀i o,C.Fz i=some o->Fz' i=some o)/\(∀i o,Fz' i=some o->a.get i=some o)/\aC Fz' e av:=by
   intro e v h hv;obtain⟨C1,new,s1,g1,g2,g3,g4,g5,_,g7⟩:=sT (ta:= .e) htab 1000 _ _ [av] _ C _ h (aH.cons hv aH.nil) (fun t s hs=>by simp[look]at hs) H;exact⟨C1.Fz,g2.fz,g3.fz,g7.2 0 e av rfl rfl⟩
 simp only[lF]at h;split at h
 . rename_i es vs;obtain⟨us,rfl,hs⟩:=ql hv;obtain⟨C1,new,s1,g1,g2,g3,g4,g5,_,g7⟩:=sT (ta:= .e) htab 1000 _ _ us _ C _ h hs (fun t s hs=>by simp[look]at hs) H;exact⟨C1.Fz,g2.fz,g3.fz, .aO g7.1 g7.2⟩
 . exact h.elim
 . exact one _ _ h hv
end
end
section
universe u v
variable [Inhabited aE]
section
variable {P:Program} {tab:aM} {cfg:eZ}
end
end
section
universe u v
variable [Inhabited aE]
section
variable {P:Program} {tab:aM}
theorem da.shut (ok:aV P tab) {f:FuncId} {fn:Func} {body:Code} {avs:List AV} {Θ:AV->AH->Prop} (hfn:tab.fns.get f=some fn) (hb:fn.body=some body) (hgo:da P {fr:=ae.enter fn f body avs .normal,cs:=[],h:=db} Θ)
   (hargs:∀E E',aJ E avs=aJ E' avs) (hv:∀v h',Θ v h'->∀E E',aa E v=aa E' v) (a:AH):da P {fr:=ae.enter fn f body avs .normal,cs:=[],h:=a} fun v a'=>a'=a/\ ∃h',Θ v h':=by
 intro D E K base frC csC w hR hB;have hP:=ok.fns f fn hfn;obtain⟨q1,q2,q3⟩:=hR.all E (ag.refl _ _);have hR0:Rel (fun _=>False) E (KS.old w.heap.size) {fr:=ae.enter fn f body avs .normal,cs:=[],h:=db} base frC csC w:=by
   refine⟨fun E' _=>⟨wI E' _ w (fun b h=>h) (fun b h=>h),?_,q3⟩,fun i h=>h.elim,hR.wf⟩;rw[<-q2];simp only;rw[<-iB hP hb,<-iB hP hb,hargs E' E]
 obtain⟨v,h',hΘ,fr',w',v',E',D',s1,s2,s3,s4,s5,s6,s7,s8,s9,s10⟩:=hgo _ E _ base frC csC w hR0 (fun b hb=>⟨q1.kb b (hB b hb).1,(hB b hb).2⟩);refine⟨v,a,⟨rfl,h',hΘ⟩,fr',w',v',E,D,s1,s2,s3,fun E'' he=>⟨?_,?_⟩,ag.refl _ _,fun _ h=>h,hR.cN,⟨s8.os,s8.tape,s8.output,s8.size,fun b hb'=>s8.block b (q1.kb b hb'),s8.drawn⟩,Aj _,fun i hi=> .inl hi⟩
 . obtain⟨g1,_,_⟩:=hR.all E'' he;refine⟨fun i o hi=>?_,g1.nk,g1.inj,g1.cN,fun b hb'=>Bd (g1.kb b hb') s8.size,g1.im,g1.k0⟩;obtain⟨c,h1,h2⟩:=g1.obj i o hi;refine⟨c,?_,h2⟩;rw[s8.block _ (Ad.1 h1).1];exact h1
 . rw[<-(s4 E' (ag.refl _ _)).2];exact hv v h' hΘ _ _
theorem bq.shut (pr:eE P tab) {f:FuncId} {C:aR} (h:∀fn body,tab.fns.get f=some fn->fn.body=some body->∀y,C.pre y->∀avs Fz,PL Fz (C.args y) avs->(∀E E',aJ E avs=aJ E' avs)/\ ∃Θ:AV->AH->Prop,da P {fr:=ae.enter fn f body avs .normal,cs:=[],h:=db} Θ/\ ∀v h',Θ v h'->(∀E E',aa E v=aa E' v)/\aC (fun _=>none) (C.res y) v):bq P tab f C:=by
 intro fn body hfn hb y hy Fz a avs hfz hwf hlen hav;obtain⟨h1,Θ,h2,h3⟩:=h fn body hfn hb y hy avs Fz ⟨hlen,hav⟩;refine(da.shut pr.ok hfn hb h2 h1 (fun v h' hv=>(h3 v h' hv).1) a).mono ?_;rintro v a' ⟨rfl,h',hv⟩;exact⟨Fz,fun _ _ h=>h,hfz,(h3 v h' hv).2.mono (fun _ _ h=>by cases h),Grow.refl _,fun _ _ h=>h,hwf,fun _ _ h=> .inl h⟩
theorem da.run (pr:eE P tab) {n:Nat} {m:AM} {outs:List (AV×AH)} (h:Am.run tab n m= .ok outs):da P m fun v h'=>(v,h')∈outs:=by
 intro D E K base frC csC w hR hB;exact(wA pr.ok pr.ext (fun sub hsub=>o9 pr.ok hsub pr.ext pr.mix) n).1 m outs h D E K base frC csC w hR
end
end
section
universe u v
variable [Inhabited aE]
def cE (n:Nat):Value->AV
 | .bool b=> .bool b
 | .int k z=> .int k z
 | .string s=> .str s.data.toList
 | .pointer none=> .aA
 | .slice none 0 0=> .nils
 | .slice (some ⟨b,off,none⟩) (len+1) cap=>if b<n then .sl b off (len+1) (.lit cap)else .raw (.slice (some ⟨b,off,none⟩) (len+1) cap)
 | .map none=> .aQ
 | .nilFunc=> .ah
 |v=> .raw v
def ep (n:Nat):Value->AV
 | .agg cs=> .agg (cs.toList.map (cE n))
 |v=>cE n v
theorem wc {n:Nat} {E:Env} (hE:∀i,i<n->E.aG i=i) (v:Value):aa E (cE n v)=v:=by
 unfold cE;split<;>try (simp[aa];done)
 split
 . rename_i b off len cap hb;simp[aa,hE _ hb,dX.val]
 . simp[aa]
theorem vu {n:Nat} {E:Env} (hE:∀i,i<n->E.aG i=i) (l:List Value):aJ E (l.map (cE n))=l:=by
 induction l with
 |nil=>rfl
 |cons v l ih=>simp[wc hE,ih]
theorem wa {n:Nat} {E:Env} (hE:∀i,i<n->E.aG i=i) (v:Value):aa E (ep n v)=v:=by
 unfold ep;split
 . simp[aa,vu hE]
 . exact wc hE _
theorem EU {n:Nat} {E:Env} (hE:∀i,i<n->E.aG i=i) (l:List Value):aJ E (l.map (ep n))=l:=by
 induction l with
 |nil=>rfl
 |cons v l ih=>simp[wa hE,ih]
def gX (tab:aM) (w:World) (b:Nat):Option AO:=
 match w.heap[b]? with
 |some (.cells arr e _)=>some (.cells (arr.toList.map (cE w.heap.size)) e ((tab.siz.get e).getD 1) false .ro)
 |_=>none
def bP (tab:aM) (w:World):AH:=ofFn w.heap.size (gX tab w)
theorem wz {tab:aM} {w:World} {b:Nat} {o:AO} (h:gX tab w b=some o):∃arr e fz,w.heap[b]? =some (.cells arr e fz)/\o= .cells (arr.toList.map (cE w.heap.size)) e ((tab.siz.get e).getD 1) false .ro:=by
 unfold gX at h;split at h
 . rename_i arr e fz hb
   cases h;exact⟨arr,e,fz,hb,rfl⟩
 . cases h
theorem sM {tab:aM} {w:World} {b:Nat}:(bP tab w).get b=gX tab w b:=by
 unfold bP;rw[lq];split
 . rfl
 . rename_i hb;unfold gX;rw[Dh (by omega)]
theorem n4 (tab:aM) (w:World) {E:Env} (hE:∀i,i<w.heap.size->E.aG i=i):aU E (bP tab w) (KS.old w.heap.size) w:=by
 have hro:∀i o,(bP tab w).get i=some o->o.ro/\i<w.heap.size:=by
   intro i o hi;rw[sM]at hi;obtain⟨arr,e,fz,hb,rfl⟩:=wz hi;exact⟨trivial,(Ad.1 hb).1⟩
 refine⟨fun i o hi=>?_,fun i o hi hr=>absurd (hro i o hi).1 hr,fun i j oi oj hi hj hr=>absurd (hro i oi hi).1 hr,fun i o hi=>(hro i o hi).2,fun b hb=>hb,fun i o hi _=>?_,fun b hb=>hb⟩
 . rw[sM]at hi;obtain⟨arr,e,fz,hb,rfl⟩:=wz hi;have hlt:=(Ad.1 hb).1;refine⟨_,by rw[hE i hlt];exact hb,arr,fz,rfl,⟨[],by simp[vu hE]⟩,by simp,trivial⟩
 . show E.aG i<w.heap.size
   rw[hE i (hro i o hi).2];exact(hro i o hi).2
theorem wP (n:Nat) (a:Addr) (c:Nat):cE n (.slice (some a) 0 c)= .raw (.slice (some a) 0 c):=by
 unfold cE;split<;>simp_all
theorem Ib {n b off len cap:Nat} (h:len≠0) (hb:b<n):cE n (.slice (some ⟨b,off,none⟩) len cap)= .sl b off len (.lit cap):=by
 cases len with
 |zero=>exact absurd rfl h
 |succ len=>simp[cE,hb]
theorem xy {tab:aM} {w:World} {X:Type} {L:List X} {enc:X->List SV} {b off len cap:Nat} {arr:Array Value} {e:TypeId} {fz:Nat×Nat} {sz:Nat} (hb:w.heap[b]? =some (.cells arr e fz))
   (h0:0<sz) (hn:∀x∈L,(enc x).length=sz) (hl:off+L.length*sz<=arr.size) (hlen:len=L.length) (hcap:len<=cap)
   (hc:∀(i:Nat) x (j:Nat) v,L[i]? =some x->(enc x)[j]? =some v->∃u,arr[off+i*sz+j]? =some u/\aC (bP tab w).get v (cE w.heap.size u)):
   aC (bP tab w).get (.aD X L enc) (cE w.heap.size (.slice (some ⟨b,off,none⟩) len cap)):=by
 have hlt:=(Ad.1 hb).1;have hg:(bP tab w).get b=some (.cells (arr.toList.map (cE w.heap.size)) e ((tab.siz.get e).getD 1) false .ro):=by
   rw[sM];unfold gX;rw[hb]
 subst hlen;by_cases hL:L.length=0
 . rw[hL,wP];exact .bt hL (.inr (.inr ⟨_,_,rfl⟩))
 rw[Ib hL hlt];refine .aD b off (.lit cap) _ e sz false .ro (fun i j=>cE w.heap.size (arr[off+i*sz+j]?.getD (.bool false))) ⟨_,false,hg,fun h=>by cases h⟩ h0 (by simpa using hl) (fun i x hx=>hn x (Br hx)) hcap ?_ ?_
 . intro i x j v hx hv;obtain⟨u,hu,_⟩:=hc i x j v hx hv;simp[hu]
 . intro i x j v hx hv;obtain⟨u,hu,hs⟩:=hc i x j v hx hv;simp only[hu,AA];exact hs
section
variable {P:Program} {tab:aM} {cfg:eZ}
end
end
section
universe u v
variable [Inhabited aE]
abbrev ay (a b:Int):Prop:=a=b
theorem ak {b:Bool} {p q:Prop}:br b p q↔(b=true->p)/\(b=false->q):=by
 cases b<;>simp[br]
theorem cm {b:Bool} {p q:Prop} (h:b=true->p) (k:b=false->q):br b p q:=ak.2 ⟨h,k⟩
theorem aB {b:Bool} {p:Prop}:ck b p↔b=true/\p:=by
 cases b<;>simp[ck]
theorem aN {α:Type u} {x:Option α} {k:α->Prop}:so x k↔∃a,x=some a/\k a:=by
 cases x<;>simp[so]
theorem qS (n:Int):nn n=decide (0<=n):=by
 rw[A3]
 cases n with
 |ofNat a=>simp only[nn,Ao,true_iff];exact Int.natCast_nonneg a
 |negSucc a=>simp only[nn,Ao,Ah,false_iff];omega
theorem kz (n:Int):cg .i64 n=true↔ -9223372036854775808<=n/\n<=9223372036854775807:=by
 simp only[cg,rp,rl,gl,Ab,Ao];constructor<;>rintro⟨h1,h2⟩<;>constructor<;>(try simp only[Ak]at*)<;>omega
def cd {C:aR} (cfg:C.Y->eZ) (n:Nat) (f:FuncId):Prop:=∀y:C.Y,C.pre y->ask (cfg y) n f (C.args y) (lF (cfg y) (C.res y))
theorem cZ {P:Program} {tab:aM} {C:aR} {cfg:C.Y->eZ} (pr:eE P tab) (htab:∀y,(cfg y).tab=tab) (hcon:∀y g C',(cfg y).cJ g=some C'->bq P tab g C') {n:Nat} {f:FuncId} (h:cd cfg n f):bq P tab f C:=by
 refine bq.of fun fn body hfn hb y hy C0 a avs hρ H hlen hav=>?_
 have h1:=h y hy;unfold ask at h1;rw[htab y,hfn]at h1;simp only[hb]at h1;refine(JA pr (htab y) (hcon y) n f fn body (C.args y) ⟨0,[]⟩ a C0 avs _ hfn hb h1 H ⟨hlen,fun i s v hs hv=> .pure (hav i s v hs hv)⟩).mono ?_;rintro v a' ⟨sv,s',C',k1,k2,k3,k4⟩;exact⟨sv,s',C',fun C1 a1 av H1 hv1=>IL (htab y) k1 H1 hv1,k2,k3,k4⟩
theorem dw {P:Program} {tab:aM} {cJ:FuncId->Option aR} {k:FuncId} {c:aR} (hc:bq P tab k c) (h:∀g C,cJ g=some C->bq P tab g C):∀g C,(bif Nat.beq g k then some c else cJ g)=some C->bq P tab g C:=by
 intro g C hg
 cases hb:Nat.beq g k
 . rw[hb]at hg;exact h g C hg
 . rw[hb]at hg
   cases hg;rw[Aa hb];exact hc
theorem wG {P:Program} {tab:aM}:∀g C,(none:Option aR)=some C->bq P tab g C:=fun _ _ h=>by cases h
end
section
universe u v
variable [Inhabited aE]
inductive Rd (w:World) (p:Nat->Prop) (arg:Bool):SV->Value->Prop
 |bool (b:Bool):Rd w p arg (.bool b) (.bool b)
 |int (k:IntKind) (n:Int):Rd w p arg (.int k n) (.int k n)
 |str (s:List UInt8):Rd w p arg (.str s) (.string ⟨s.toArray⟩)
 |aA:Rd w p arg .aA (.pointer none)
 |wp (a:Addr):Rd w p arg (.wp a) (.pointer (some a))
 |nils:Rd w p arg .nils (.slice none 0 0)
 |aQ:Rd w p arg .aQ (.map none)
 |ah:Rd w p arg .ah .nilFunc
 |any (v:Value):Rd w p arg .any v
 |fn {f:FuncId} {xs ys:List SV} (h:arg=true) (v:Value):Rd w p arg (.fn f xs ys) v
 |bB {cs:List SV} {off:Nat} (h:arg=true) (v:Value):Rd w p arg (.bB cs off) v
 |fp {X:Type} {L:List X} {enc:X->List SV} (h0:L.length=0):Rd w p arg (.aD X L enc) (.slice none 0 0)
 |bt {X:Type} {L:List X} {enc:X->List SV} (h:arg=true) (h0:L.length=0) (a:Option Addr) (c:Nat):Rd w p arg (.aD X L enc) (.slice a 0 c)
 |aD {X:Type} {L:List X} {enc:X->List SV} (b off cap:Nat) (arr:Array Value) (e:TypeId) (fz:Nat×Nat) (sz:Nat) (u:Nat->Nat->Value)
  (hp:p b) (hb:w.heap[b]? =some (.cells arr e fz)) (hs:0<sz) (hl:off+L.length*sz<=arr.size) (hn:∀(i:Nat) x,L[i]? =some x->(enc x).length=sz) (hc:L.length<=cap)
  (h1:∀(i:Nat) x (j:Nat) v,L[i]? =some x->(enc x)[j]? =some v->arr[off+i*sz+j]? =some (u i j)) (h2:∀(i:Nat) x (j:Nat) v,L[i]? =some x->(enc x)[j]? =some v->Rd w p arg v (u i j)):Rd w p arg (.aD X L enc) (.slice (some ⟨b,off,none⟩) L.length cap)
 |agg {cs:List SV} {vs:Array Value} (h1:cs.length=vs.size) (h2:∀(i:Nat) c v,cs[i]? =some c->vs[i]? =some v->Rd w p arg c v):Rd w p arg (.agg cs) (.agg vs)
 |aO {cs:List SV} {vs:Array Value} (h1:cs.length=vs.size) (h2:∀(i:Nat) c v,cs[i]? =some c->vs[i]? =some v->Rd w p arg c v):Rd w p arg (.aO cs) (.tuple vs)
def uF (w:World) (p:Nat->Prop) (arg:Bool) (l:List SV) (m:List Value):Prop:=l.length=m.length/\ ∀(i:Nat) s v,l[i]? =some s->m[i]? =some v->Rd w p arg s v
theorem Fy {E:Env} {a:AH} {K:KS} {w:World} (H:aU E a K w) {Fz:Nat->Option AO} (hf:∀i o,Fz i=some o->a.get i=some o) {p:Nat->Prop} (hp:∀i o,Fz i=some o->p (E.aG i)) {s:SV} {v:AV} (h:aC Fz s v):Rd w p true s (aa E v):=by
 induction h with
 |bool b=>exact .bool b
 |int k n=>exact .int k n
 |str s=>exact .str s
 |aA=>exact .aA
 |wp a=>exact .wp a
 |nils=>exact .nils
 |aQ=>exact .aQ
 |ah=>exact .ah
 |any v=>exact .any _
 |bt h0 hv=>
  rcases hv with rfl|⟨b,off,l,n,k,rfl⟩|⟨a,c,rfl⟩
  . exact .fp h0
  . exact .bt rfl h0 _ _
  . exact .bt rfl h0 _ _
 | @aD X L enc b off cap cs e sz ext bk u hb hs hl hn hc h1 h2 ih=>
  obtain⟨sz0,ext0,hb,hx0⟩:=hb;have hpb:=hp _ _ hb;obtain⟨arr,fz,hw,⟨rest,hr⟩,hsz⟩:∃arr fz,w.heap[E.aG b]? =some (.cells arr e fz)/\(∃rest,arr.toList=aJ E cs++rest)/\(if ext0 then arr.size=E.cap b*sz0 else arr.size=cs.length):=by
    obtain⟨c,k1,arr,fz,rfl,k2,k3,_⟩:=H.obj _ _ (hf _ _ hb);exact⟨arr,fz,k1,k2,k3⟩
  have hle:cs.length<=arr.size:=by
    have:=AN List.length hr;simp at this;omega
  simp only[aa];refine .aD _ off _ arr e fz sz (fun i j=>aa E (u i j)) hpb hw hs (by omega) hn ?_ ?_ ih
  . cases cap with
    |lit m=>exact hc
    |tail k=>
     obtain⟨g1,g2⟩:=hc;obtain⟨g3,g4⟩:=hx0 g1;rw[g4,Ai rfl,g3]at hsz;rw[g2]at hl;have h5:(k+L.length)*sz<=E.cap b*sz:=by rw[A7];omega
     have:=Nat.le_of_mul_le_mul_right h5 hs;show L.length<=E.cap b - k
     omega
  . intro i x j v hx hv;have h3:=h1 i x j v hx hv;rw[<-BH,hr];have hlt:off+i*sz+j<(aJ E cs).length:=by
     simp;exact(Ac.1 h3).1
    rw[AI hlt,gO,h3];rfl
 |bB b base ca e sz ext bk u hb hl h1 _ ih=>exact .bB rfl _
 |fn h1 h2 _ _ ih3 ih4=>exact .fn rfl _
 | @agg cs vs h1 _ ih=>
  simp only[aa];refine .agg (by simpa using h1) (fun i c v hc hv=>?_);simp only[AE,gO]at hv;obtain⟨u,hu,rfl⟩:=Aq.1 hv;exact ih i c u hc hu
 | @aO cs vs h1 _ ih=>
  simp only[aa];refine .aO (by simpa using h1) (fun i c v hc hv=>?_);simp only[AE,gO]at hv;obtain⟨u,hu,rfl⟩:=Aq.1 hv;exact ih i c u hc hu
theorem pq {E:Env} {a:AH} {K:KS} {w:World} (H:aU E a K w) {Fz:Nat->Option AO} (hf:∀i o,Fz i=some o->a.get i=some o) {s:SV} {v:AV} (h:aC Fz s v):Rd w (fun _=>True) true s (aa E v):=Fy H hf (fun _ _ _=>trivial) h
def dM (n m lo:Nat):Value->AV
 | .bool b=> .bool b
 | .int k z=> .int k z
 | .string s=> .str s.data.toList
 | .pointer none=> .aA
 | .slice none 0 0=> .nils
 | .slice (some ⟨b,off,none⟩) (len+1) cap=>if n<=b/\b<m then .sl (lo+(b - n)) off (len+1) (.lit cap)else .raw (.slice (some ⟨b,off,none⟩) (len+1) cap)
 | .map none=> .aQ
 | .nilFunc=> .ah
 |v=> .raw v
theorem wb {n m lo:Nat} {E:Env} (hE:∀b,n<=b->b<m->E.aG (lo+(b - n))=b) (v:Value):aa E (dM n m lo v)=v:=by
 unfold dM;split<;>try (simp[aa];done)
 split
 . rename_i b off len cap hb;simp[aa,hE _ hb.1 hb.2,dX.val]
 . simp[aa]
theorem EV {n m lo:Nat} {E:Env} (hE:∀b,n<=b->b<m->E.aG (lo+(b - n))=b) (l:List Value):aJ E (l.map (dM n m lo))=l:=by
 induction l with
 |nil=>rfl
 |cons v l ih=>simp[wb hE,ih]
def SV.atom:SV->Bool
 | .agg _=>false
 | .aO _=>false
 |_=>true
inductive Up (w:World) (n:Nat):SV->Value->Prop
 |bool (b:Bool):Up w n (.bool b) (.bool b)
 |int (k:IntKind) (z:Int):Up w n (.int k z) (.int k z)
 |str (s:List UInt8):Up w n (.str s) (.string ⟨s.toArray⟩)
 |aA:Up w n .aA (.pointer none)
 |nils:Up w n .nils (.slice none 0 0)
 |aQ:Up w n .aQ (.map none)
 |ah:Up w n .ah .nilFunc
 |any (v:Value):Up w n .any v
 |fp {X:Type} {L:List X} {enc:X->List SV} (h0:L.length=0):Up w n (.aD X L enc) (.slice none 0 0)
 |bt {X:Type} {L:List X} {enc:X->List SV} (h0:L.length=0) (a:Option Addr) (c:Nat):Up w n (.aD X L enc) (.slice a 0 c)
 |aD {X:Type} {L:List X} {enc:X->List SV} (b off cap:Nat) (arr:Array Value) (e:TypeId) (fz:Nat×Nat) (sz:Nat) (u:Nat->Nat->Value)
  (hp:n<=b) (hb:w.heap[b]? =some (.cells arr e fz)) (hs:0<sz) (hl:off+L.length*sz<=arr.size) (hn:∀(i:Nat) x,L[i]? =some x->(enc x).length=sz) (hc:L.length<=cap)
  (ha:∀(i:Nat) x (j:Nat) v,L[i]? =some x->(enc x)[j]? =some v->v.atom=true)
  (h1:∀(i:Nat) x (j:Nat) v,L[i]? =some x->(enc x)[j]? =some v->arr[off+i*sz+j]? =some (u i j)) (h2:∀(i:Nat) x (j:Nat) v,L[i]? =some x->(enc x)[j]? =some v->Up w n v (u i j)):Up w n (.aD X L enc) (.slice (some ⟨b,off,none⟩) L.length cap)
 |agg {cs:List SV} {vs:Array Value} (h1:cs.length=vs.size) (h2:∀(i:Nat) c v,cs[i]? =some c->vs[i]? =some v->Up w n c v):Up w n (.agg cs) (.agg vs)
 |aO {cs:List SV} {vs:Array Value} (h1:cs.length=vs.size) (h2:∀(i:Nat) c v,cs[i]? =some c->vs[i]? =some v->Up w n c v):Up w n (.aO cs) (.tuple vs)
def ff (a:AH) (n:Nat) (w:World):AH:=ofFn (a.next+(w.heap.size - n)) fun i=>if i<a.next then a.get i else
 match w.heap[n+(i - a.next)]? with
 |some (.cells arr e _)=>some (.cells (arr.toList.map (dM n w.heap.size a.next)) e 1 false .cold)
 |_=>none
theorem jF {a:AH} {n:Nat} {w:World} {i:Nat} (hi:i<a.next):(ff a n w).get i=a.get i:=by
 unfold ff;rw[lq,Ai (by omega),Ai hi]
theorem xp {a:AH} {n:Nat} {w:World} {i:Nat} {o:AO} (hi:a.next<=i) (h:(ff a n w).get i=some o):
   ∃arr e fz,w.heap[n+(i - a.next)]? =some (.cells arr e fz)/\o= .cells (arr.toList.map (dM n w.heap.size a.next)) e 1 false .cold:=by
 unfold ff at h;rw[lq]at h;split at h
 . rw[Ae (by omega)]at h;split at h
   . rename_i arr e fz hb
     cases h;exact⟨arr,e,fz,hb,rfl⟩
   . cases h
 . cases h
theorem Hk {a:AH} {n:Nat} {w:World} {b:Nat} {arr:Array Value} {e:TypeId} {fz:Nat×Nat} (hb:n<=b) (h:w.heap[b]? =some (.cells arr e fz)):
  (ff a n w).get (a.next+(b - n))=some (.cells (arr.toList.map (dM n w.heap.size a.next)) e 1 false .cold):=by
 have hlt:=(Ad.1 h).1;unfold ff;rw[lq,Ai (by omega),Ae (by omega),show n+(a.next+(b - n) - a.next)=b from by omega,h]
theorem wC {n m lo:Nat} {Fz:Nat->Option AO} {X:Type} {L:List X} {enc:X->List SV} (h0:L.length=0) (p:Option Addr) (c:Nat):aC Fz (.aD X L enc) (dM n m lo (.slice p 0 c)):=by
 have:dM n m lo (.slice p 0 c)= .nils\/dM n m lo (.slice p 0 c)= .raw (.slice p 0 c):=by
   unfold dM;split<;>simp_all
 rcases this with h|h
 . rw[h];exact .bt h0 (.inl rfl)
 . rw[h];exact .bt h0 (.inr (.inr ⟨_,_,rfl⟩))
theorem JR {a:AH} {n:Nat} {w:World} {Fz:Nat->Option AO} (hF:∀i o,a.next<=i->(ff a n w).get i=some o->Fz i=some o) {s:SV} {v:Value} (h:Up w n s v):
  (s.atom=true->aC Fz s (dM n w.heap.size a.next v))/\ ∃av,aC Fz s av/\ ∀E:Env,(∀b,n<=b->b<w.heap.size->E.aG (a.next+(b - n))=b)->aa E av=v:=by
 have key:∀{s:SV} {v:Value},aC Fz s (dM n w.heap.size a.next v)->(s.atom=true->aC Fz s (dM n w.heap.size a.next v))/\ ∃av,aC Fz s av/\ ∀E:Env,(∀b,n<=b->b<w.heap.size->E.aG (a.next+(b - n))=b)->aa E av=v:=
  fun{s v} h=>⟨fun _=>h,_,h,fun E hE=>wb hE v⟩
 induction h with
 |bool b=>exact key (.bool b)
 |int k z=>exact key (.int k z)
 |str s=>exact key (by simp only[dM];exact .str s)
 |aA=>exact key .aA
 |nils=>exact key .nils
 |aQ=>exact key .aQ
 |ah=>exact key .ah
 |any v=>exact key (.any _)
 |fp h0=>exact key (.bt h0 (.inl rfl))
 |bt h0 p c=>exact key (wC h0 p c)
 | @aD X L enc b off cap arr e fz sz u hp hb hs hl hn hc ha h1 h2 ih=>
  apply key;have hlt:=(Ad.1 hb).1;by_cases hL:L.length=0
  . rw[hL];exact wC hL _ _
  obtain⟨len,hlen⟩:∃k,L.length=k+1:=⟨L.length - 1,by omega⟩;rw[hlen];simp only[dM];rw[Ai ⟨hp,hlt⟩,<-hlen];refine .aD _ off (.lit cap) _ e sz false .cold (fun i j=>dM n w.heap.size a.next (u i j)) ⟨1,false,hF _ _ (by omega) (Hk hp hb),fun h=>by cases h⟩ hs (by simpa using hl) hn hc ?_ ?_
  . intro i x j v hx hv;have h3:=h1 i x j v hx hv;rw[Au,BH,h3];rfl
  . intro i x j v hx hv;exact(ih i x j v hx hv).1 (ha i x j v hx hv)
 | @agg cs vs h1 h2 ih=>
  refine⟨fun h=>(by cases h),?_⟩;have hc:∀i:Nat,∃av,∀c v,cs[i]? =some c->vs[i]? =some v->aC Fz c av/\ ∀E:Env,(∀b,n<=b->b<w.heap.size->E.aG (a.next+(b - n))=b)->aa E av=v:=by
    intro i
    cases hi:cs[i]? with
    |none=>exact⟨.aA,fun c v h=>by cases h⟩
    | some c=>
      cases hj:vs[i]? with
      |none=>exact⟨.aA,fun c v _ h=>by cases h⟩
      |some v=>
       obtain⟨_,av,g1,g2⟩:=ih i c v hi hj;exact⟨av,fun c' v' e1 e2=>by cases e1;cases e2;exact⟨g1,g2⟩⟩
  obtain⟨f,hf⟩:=Ek hc;refine⟨.agg ((List.range vs.size).map f), .agg (by simp[h1]) fun i c v hi hv=>?_,fun E hE=>?_⟩
  . have hi2:i<vs.size:=by rw[<-h1];exact(Ac.1 hi).1
    rw[Au,Dq hi2]at hv
    cases hv;exact(hf i c _ hi (AU hi2)).1
  . simp only[aa,Value.agg.injEq];apply By
    intro i;rw[AE,gO,Au];by_cases hi:i<vs.size
    . have hi2:i<cs.length:=by omega
      rw[Dq hi,AU hi];simp only[AS];rw[(hf i _ _ (Af hi2) (AU hi)).2 E hE]
    . rw[Dh (by omega),Bh (by simp;omega)];rfl
 | @aO cs vs h1 h2 ih=>
  refine⟨fun h=>(by cases h),?_⟩;have hc:∀i:Nat,∃av,∀c v,cs[i]? =some c->vs[i]? =some v->aC Fz c av/\ ∀E:Env,(∀b,n<=b->b<w.heap.size->E.aG (a.next+(b - n))=b)->aa E av=v:=by
    intro i
    cases hi:cs[i]? with
    |none=>exact⟨.aA,fun c v h=>by cases h⟩
    | some c=>
      cases hj:vs[i]? with
      |none=>exact⟨.aA,fun c v _ h=>by cases h⟩
      |some v=>
       obtain⟨_,av,g1,g2⟩:=ih i c v hi hj;exact⟨av,fun c' v' e1 e2=>by cases e1;cases e2;exact⟨g1,g2⟩⟩
  obtain⟨f,hf⟩:=Ek hc;refine⟨.aO ((List.range vs.size).map f), .aO (by simp[h1]) fun i c v hi hv=>?_,fun E hE=>?_⟩
  . have hi2:i<vs.size:=by rw[<-h1];exact(Ac.1 hi).1
    rw[Au,Dq hi2]at hv
    cases hv;exact(hf i c _ hi (AU hi2)).1
  . simp only[aa,Value.tuple.injEq];apply By
    intro i;rw[AE,gO,Au];by_cases hi:i<vs.size
    . have hi2:i<cs.length:=by omega
      rw[Dq hi,AU hi];simp only[AS];rw[(hf i _ _ (Af hi2) (AU hi)).2 E hE]
    . rw[Dh (by omega),Bh (by simp;omega)];rfl
theorem Fm {P:Program} {f:FuncId} {k:CallKind} {l m:List Value} (hl:l.length=m.length) (h:Frame.enter P f l.toArray k=Frame.enter P f m.toArray k):l=m:=by
 have h:=AN (fun fr=>fr.tmps.toList.take l.length) h;simp only[Frame.enter]at h;simpa [hl]using h
section
variable {P:Program} {tab:aM}
theorem oP (ok:aV P tab) {f:FuncId} {C:aR} (h:∀y,C.pre y->∀(w:World) (args:List Value),dm w->uF w (fun _=>True) true (C.args y) args->
     Calls P f args.toArray w (fun e w'=>∃v,e= .returned v/\((∃i:Nat,(C.args y)[i]? =some (C.res y)/\args[i]? =some v)\/Up w' w.heap.size (C.res y) v)/\Below w.heap.size w w'/\((default:aE).dr->w.drawn<=w'.drawn))):bq P tab f C:=by
 classical
 intro fn body hfn hb y hy Fz a avs hfz hwf hlen hav;intro D E K base frC csC w hR hB;have hP:=ok.fns f fn hfn;obtain⟨q1,q2,q3⟩:=hR.all E (ag.refl _ _);have hconst:∀E',ag D E E'->aJ E' avs=aJ E avs:=by
   intro E' he;obtain⟨_,p2,_⟩:=hR.all E' he;simp only at p2 q2;rw[<-iB hP hb]at p2 q2;exact Fm (by simp) (p2.trans q2.symm)
 have hargs:uF w (fun _=>True) true (C.args y) (aJ E avs):=by
   refine⟨by simpa using hlen,fun i s v hs hv=>?_⟩;rw[gO]at hv;obtain⟨av,hav',rfl⟩:=Aq.1 hv;exact pq q1 hfz (hav i s av hs hav')
 have hbc:base=csC:=q3;subst hbc;obtain⟨e,w',fr',⟨v,rfl,hv,hbel,hdr⟩,s1,s2,s3⟩:=h y hy w _ (fun b hb=>(hB b hb).2) hargs base;have hR0:frC=Frame.enter P f (aJ E avs).toArray .normal:=by
   simp only at q2;rw[<-q2,iB hP hb]
 let n:=w.heap.size
 let h':=ff a n w'
 let Fz':Nat->Option AO:=fun i=>if i<a.next then Fz i else h'.get i
 let E':Env:=⟨fun i=>if i<a.next then E.aG i else n+(i - a.next),E.cap⟩
 let D':Nat->Prop:=fun i=>D i\/(a.next<=i/\i<a.next+(w'.heap.size - n))
 have hdom:∀i,D i->i<a.next:=hR.cN;have hsz:n<=w'.heap.size:=hbel.size;have hag:∀E'',ag D' E' E''->ag D E E'':=by
   intro E'' he i hi;have h1:=he i (.inl hi);simp only[E',Ai (hdom i hi)]at h1;exact h1
 have hblk:∀E'',ag D' E' E''->∀i,a.next<=i->i<a.next+(w'.heap.size - n)->E''.aG i=n+(i - a.next):=by
   intro E'' he i h1 h2;have h3:=(he i (.inr ⟨h1,h2⟩)).1;simp only[E',Ae (show ¬i<a.next by omega)]at h3;exact h3
 have hblk2:∀E'',ag D' E' E''->∀b,n<=b->b<w'.heap.size->E''.aG (a.next+(b - n))=b:=by
   intro E'' he b h1 h2;rw[hblk E'' he _ (by omega) (by omega)];omega
 have hnext:h'.next=a.next+(w'.heap.size - n):=rfl;have hdom':∀i o,h'.get i=some o->i<h'.next:=by
   intro i o hi;have hi:(ff a n w').get i=some o:=hi;unfold ff at hi;rw[lq]at hi;split at hi
   . rename_i hlt;exact hlt
   . cases hi
 have hH:∀E'',ag D' E' E''->aU E'' h' K w':=by
   intro E'' he;obtain⟨g1,_,_⟩:=hR.all E'' (hag E'' he);simp only at g1;refine⟨fun i o hi=>?_,fun i o hi hr=>?_,fun i j oi oj hi hj hr hij=>?_,hdom',fun b hb'=>Bd (g1.kb b hb') hsz,fun i o hi hr=>?_,g1.k0⟩
   . by_cases hlt:i<a.next
     . rw[show h'.get i=a.get i from jF hlt]at hi;obtain⟨c,h1,h2⟩:=g1.obj i o hi;exact⟨c,by rw[hbel.block _ (Ad.1 h1).1];exact h1,h2⟩
     . obtain⟨arr,e,fz,hb2,rfl⟩:=xp (by omega) hi;have hlt2:=hdom' i _ hi;refine⟨_,by rw[hblk E'' he i (by omega) (by omega)];exact hb2,arr,fz,rfl,⟨[],by simp[EV (hblk2 E'' he)]⟩,by simp,trivial⟩
   . by_cases hlt:i<a.next
     . rw[show h'.get i=a.get i from jF hlt]at hi;exact g1.nk i o hi hr
     . have hlt2:=hdom' i _ hi;rw[hblk E'' he i (by omega) (by omega)];intro hk;have:=g1.kb _ hk;omega
   . have hin:∀k ok',h'.get k=some ok'->(k<a.next/\E''.aG k<n)\/(a.next<=k/\E''.aG k=n+(k - a.next)):=by
       intro k ok' hk;by_cases hlt:k<a.next
       . rw[show h'.get k=a.get k from jF hlt]at hk;obtain⟨c,h1,h2⟩:=g1.obj k ok' hk;exact .inl ⟨hlt,(Ad.1 h1).1⟩
       . have:=hdom' k _ hk;exact .inr ⟨by omega,hblk E'' he k (by omega) (by omega)⟩
     rcases hin i oi hi with⟨h1,h2⟩|⟨h1,h2⟩<;>rcases hin j oj hj with⟨h3,h4⟩|⟨h3,h4⟩
     . rw[show h'.get i=a.get i from jF h1]at hi;rw[show h'.get j=a.get j from jF h3]at hj;exact g1.inj i j oi oj hi hj hr hij
     all_goals omega
   . by_cases hlt:i<a.next
     . rw[show h'.get i=a.get i from jF hlt]at hi;exact g1.im i o hi hr
     . obtain⟨arr,e,fz,hb2,rfl⟩:=xp (by omega) hi;exact hr.elim
 have hval:∃av,aC Fz' (C.res y) av/\ ∀E'',ag D' E' E''->aa E'' av=v:=by
   rcases hv with⟨i,hi,hvi⟩|hv
   . rw[gO]at hvi;obtain⟨av,hav',rfl⟩:=Aq.1 hvi;refine⟨av,(hav i _ av hi hav').mono fun j o hj=>?_,fun E'' he=>?_⟩
     . have:j<a.next:=hwf j o (hfz j o hj);simp only[Fz',Ai this];exact hj
     . have h1:=AN (fun l=>l[i]?) (hconst E'' (hag E'' he));simp only[gO,hav',AS,Az]at h1;exact h1
   . obtain⟨_,av,g1,g2⟩:=JR (a:=a) (n:=n) (w:=w') (Fz:=Fz') (fun i o hi ho=>by simp only[Fz',Ae (show ¬i<a.next by omega)];exact ho) hv;exact⟨av,g1,fun E'' he=>g2 E'' (hblk2 E'' he)⟩
 obtain⟨av,hsim,hconc⟩:=hval;refine⟨av,h',⟨Fz',fun i o hi=>?_,fun i o hi=>?_,hsim,⟨by rw[hnext];exact Nat.le_add_right _ _,fun i o hi=>?_⟩,fun i o hi=>?_,hdom',fun i o hi=>?_⟩,fr',w',v,E',D',?_,s2,s3,fun E'' he=>⟨hH E'' he,hconc E'' he⟩,?_,fun i hi=> .inl hi,fun i hi=>?_,⟨hbel.os,hbel.tape,hbel.output,hbel.size,fun b hb'=>hbel.block b (q1.kb b hb'),hdr⟩,?_,fun i hi=>?_⟩
 . have:i<a.next:=hwf i o (hfz i o hi);simp only[Fz',Ai this];exact hi
 . by_cases hlt:i<a.next
   . simp only[Fz',Ai hlt]at hi;rw[show h'.get i=a.get i from jF hlt];exact hfz i o hi
   . simp only[Fz',Ae hlt]at hi;exact hi
 . by_cases hlt:i<a.next
   . rw[show h'.get i=a.get i from jF hlt]at hi;exact .inl ⟨o,hi⟩
   . exact .inr (by omega)
 . rw[show h'.get i=a.get i from jF (hwf i o hi)];exact hi
 . by_cases hlt:i<a.next
   . simp only[Fz',Ai hlt]at hi;exact .inl hi
   . exact .inr (by omega)
 . rw[hR0];exact s1
 . intro i hi;exact⟨Ai (hdom i hi),rfl⟩
 . rcases hi with hi|⟨_,hi⟩
   . have:=hdom i hi;rw[hnext];omega
   . exact hi
 . show a.next<=h'.next
   rw[hnext];exact Nat.le_add_right _ _
 . rcases hi with hi|⟨hi,_⟩
   . exact .inl hi
   . exact .inr hi
theorem iQ (ok:aV P tab) {f:FuncId} {C:aR} (hc:bq P tab f C) {fn:Func} {body:Code} (hfn:tab.fns.get f=some fn) (hb:fn.body=some body) {y:C.Y} (hy:C.pre y) {args:List Value} {w:World}
  (hs:PL (bP tab w).get (C.args y) (args.map (ep w.heap.size))) (hw:dm w):Calls P f args.toArray w (fun e w'=>∃v,e= .returned v/\Rd w' (fun _=>True) true (C.res y) v/\Below w.heap.size w w'/\((default:aE).dr->w.drawn<=w'.drawn)):=by
 intro cs;have hP:=ok.fns f fn hfn;have hdom:∀i o,(bP tab w).get i=some o->i<(bP tab w).next:=fun i o hi=>(n4 tab w (E:=⟨fun i=>i,fun _=>0⟩) (fun _ _=>rfl)).cN i o hi
 let E:Env:=⟨fun i=>i,fun _=>0⟩
 let D:Nat->Prop:=fun i=>i<w.heap.size
 have hag:∀E',ag D E E'->∀i,i<w.heap.size->E'.aG i=i:=fun E' he i hi=>(he i hi).1
 have hR:Rel D E (KS.old w.heap.size) {fr:=ae.enter fn f body (args.map (ep w.heap.size)) .normal,cs:=[],h:=bP tab w} cs (Frame.enter P f args.toArray .normal) cs w:=by
  refine⟨fun E' he=>⟨n4 tab w (hag E' he),?_,rfl⟩,fun i h=>h,ln _ _ _ _ _,fun f hf=>by cases hf⟩;rw[<-iB hP hb,EU (hag E' he)]
 obtain⟨v,h',⟨Fz',_,f2,hsim,_⟩,fr',w',v',E',D',s1,s2,s3,s4,s5,s6,s7,s8,s9,s10⟩:=hc fn body hfn hb y hy (bP tab w).get (bP tab w) _ (fun _ _ h=>h) hdom hs.1 hs.2 D E _ cs _ cs w hR hw.kj;obtain⟨g1,g2⟩:=s4 E' (ag.refl _ _);subst g2;exact⟨.returned (aa E' v),w',fr',⟨_,rfl,pq g1 f2 hsim,⟨s8.os,s8.tape,s8.output,s8.size,s8.block⟩,s8.drawn⟩,s1,s2,s3⟩
end
end
section
universe u v
variable [Inhabited aE]
section
variable {P:Program} {tab:aM}
end
end
section
universe u v
def fr0 (f:FuncId):Frame:={(default:Frame)with fn:=f,kind:= .normal}
def yW (P:Program) (f:FuncId) (l:List Item) (a:Act) (w:World) (R:Ending->World->Prop):Prop:=
 ∀cs,∃e w' fr,R e w'/\Comes P (lone ((fr0 f).at a l) cs w) (lone fr cs w') e/\fr.fn=f/\fr.leaving P w' e
variable [Inhabited aE]
section
variable {P:Program} {tab:aM} {cfg:eZ}
end
end
end Go.Sy
namespace Go.Proofs
open Go Go.Am Go.RowKit Go.Sy
abbrev Bs:=List UInt8
def nB (b:UInt8):Int:=Int.ofNat b.toNat
def dW (s:Bs):List SV:=[.str s]
def cV (s:Bs) (c:Int):Option Nat:=s.findIdx? (fun b=>nB b==c)
def fC (s:Bs) (c:Int):Int:=match cV s c with|some i=>(i:Int)|none=> -1
def cC (s:Bs) (c:Int):Bs×Bs×Bool:=match cV s c with|some i=>(s.take i,s.drop (i+1),true)|none=>(s,[],false)
def aS:Bs->Int->List Bs
 |[],_=>[[]]
 |b::s,c=>if nB b=c then[]::aS s c else match aS s c with
  |h::t=>(b::h)::t
  |[]=>[[b]]
def dJ (b:UInt8):Bool:=decide (48<=nB b)&&decide (nB b<=57)
def dz (s:Bs):Nat:=(s.takeWhile dJ).length
def cS (n:Int) (b:UInt8):Int:=min (n*10+(nB b - 48)) 1099511627776
def bM (s:Bs):Bool:=match s with|b::_=>nB b==45|[]=>false
def ar (s:Bs):Bs:=if bM s then s.drop 1 else s
def bT (s:Bs):Int×Bool:=if ar s=[]\/dz (ar s)<(ar s).length then(0,false)else((if bM s then -1 else 1)*(ar s).foldl cS 0,true)
def oB (b:UInt8):Bool:=(decide (97<=nB b)&&decide (nB b<=122))||(decide (48<=nB b)&&decide (nB b<=57))||nB b==45||nB b==95
def eg (c:Int) (e:Bool):Bool:=if c=45 then !e else(decide (97<=c)&&decide (c<=122))||(decide (48<=c)&&decide (c<=57))||c==95
def eI (s:Bs):Bool:=s !=[]&&decide (s.length<=63)&&s.all oB&&s.head? !=some 45&&s.getLast? !=some 45
def gp (p:Bs):Bool:=p !=[]&&decide (dz p=p.length)&&decide ((bT p).1<=255)&& !(decide (1<p.length)&&p.head? ==some 48)
def fi (s:Bs):Bool:=decide ((aS s 46).length=4)&&(aS s 46).all gp
def dv (b:UInt8):Bool:=(decide (48<=nB b)&&decide (nB b<=57))||(decide (97<=nB b)&&decide (nB b<=102))||nB b==58||nB b==46
def ez (s:Bs):Bool:=decide (4<=s.length)&&decide (s.length<=47)&&s.head? ==some 91&&s.getLast? ==some 93&&((s.drop 1).take (s.length - 2)).all dv
def jf (s:Bs):Bool:=fi s||ez s
def dR (s:Bs):Bool:=decide (s.length<=256)&& !fi s&&(aS s 46).all eI
def eb (s:Bs):Bs×Bool×Bool:=if(s.take 2)=[42,46]then(s.drop 2,true,false)else if s.take 1=[33]then(s.drop 1,false,true)else(s,false,false)
def fA (s:Bs):Bool:=dR (eb s).1&&(!(eb s).2.2||decide (1<(aS (eb s).1 46).length))
theorem tA {a b:UInt8} (h:nB a=nB b):a=b:=by
 unfold nB at h;exact D8.1 (Int.ofNat.inj h)
theorem dI {s:Bs} {c:Int} {i:Nat}:cV s c=some i↔∃h:i<s.length,nB s[i]=c/\ ∀j (hj:j<i),nB (s[j]'(by omega))≠c:=by
 unfold cV;rw[DX];constructor
 . rintro⟨h,h1,h2⟩;exact⟨h,by simpa using h1,fun j hj=>by simpa using h2 j hj⟩
 . rintro⟨h,h1,h2⟩;exact⟨h,by simpa using h1,fun j hj=>by simpa using h2 j hj⟩
theorem gM {s:Bs} {c:Int}:cV s c=none↔∀j (hj:j<s.length),nB s[j]≠c:=by
 unfold cV;rw[List.findIdx?_eq_none_iff];constructor
 . intro h j hj;simpa using h s[j] (AX hj)
 . intro h x hx;obtain⟨j,hj,rfl⟩:=B6 hx;simpa using h j hj
theorem FQ (s:Bs) (c:Int):aS s c≠[]:=by
 cases s with
 |nil=>simp[aS]
 |cons b s=>
  simp only[aS];split
  . simp
  . split<;>simp
theorem vK (s:Bs) (c:Int):aS s c=match cV s c with|some i=>s.take i::aS (s.drop (i+1)) c|none=>[s]:=by
 induction s with
 |nil=>simp[aS,cV]
 |cons b s ih=>
  by_cases hb:nB b=c
  . simp[aS,cV,Ds,hb]
  . have h2:cV (b::s) c=(cV s c).map (· +1):=by simp[cV,Ds,hb]
    simp only[aS,Ae hb,h2];rw[ih]
    cases hp:cV s c with
    |none=>simp
    |some i=>simp
theorem vJ (s:Bs) (c:Int):(aS s c).length<=s.length+1:=by
 induction s with
 |nil=>simp[aS]
 |cons b s ih=>
  simp only[aS];split
  . simp;omega
  . split
    . rename_i h t he;rw[he]at ih;simp at ih⊢;omega
    . simp
theorem CZ (s:Bs) (c:Int):∀p∈aS s c,p.length<=s.length:=by
 induction s with
 |nil=>simp[aS]
 |cons b s ih=>
  intro p hp;simp only[aS]at hp;split at hp
  . rcases An.1 hp with rfl|hp
    . simp
    . have:=ih p hp;simp;omega
  . split at hp
    . rename_i h t he;rw[he]at ih;rcases An.1 hp with rfl|hp
      . have:=ih h Al;simp;omega
      . have:=ih p (Ap _ hp);simp;omega
    . simp at hp;subst hp;simp
theorem sE (s:Bs):dz s<=s.length:=(DH _).length_le
theorem Fj {s:Bs} (h:¬dz s<s.length):∀b∈s,dJ b=true:=by
 have h1:dz s=s.length:=Nat.le_antisymm (sE s) (BX h);unfold dz at h1;have h2:s.takeWhile dJ=s:=List.IsPrefix.eq_of_length (DH _) h1;intro b hb;rw[<-h2]at hb;exact Av.1 (List.all_takeWhile ..) b hb
theorem Fk {s:Bs} {j:Nat} (hj:j<dz s):∃h:j<s.length,dJ s[j]=true:=by
 induction s generalizing j with
 |nil=>simp[dz]at hj
 |cons b s ih=>
  by_cases hb:dJ b=true
  . have hd:dz (b::s)=dz s+1:=by simp[dz,Bg,hb]
    cases j with
    |zero=>exact⟨by simp,by simpa using hb⟩
    |succ j=>
     obtain⟨h1,h2⟩:=ih (j:=j) (by omega);exact⟨by simpa using h1,by simpa using h2⟩
  . have hd:dz (b::s)=0:=by simp[dz,Bg,hb]
    omega
theorem wH {s:Bs} (h:dz s<s.length):dJ (s[dz s])=false:=by
 induction s with
 |nil=>simp at h
 |cons b s ih=>
  by_cases hb:dJ b=true
  . have hd:dz (b::s)=dz s+1:=by simp[dz,Bg,hb]
    simp only[hd,Er];exact ih (by rw[hd]at h;simpa using h)
  . have hd:dz (b::s)=0:=by simp[dz,Bg,hb]
    simp only[hd,Ep];exact Ar.2 hb
theorem wm (b:UInt8):dJ b=true↔48<=nB b/\nB b<=57:=by simp[dJ]
theorem CD {n:Int} {b:UInt8} (hn:0<=n) (hb:dJ b=true):0<=cS n b/\cS n b<=1099511627776:=by
 rw[wm]at hb;unfold cS;omega
theorem CF (s:Bs) (h:∀b∈s,dJ b=true):∀n:Int,0<=n->n<=1099511627776->0<=s.foldl cS n/\s.foldl cS n<=1099511627776:=by
 induction s with
 |nil=>intro n h1 h2;exact⟨h1,h2⟩
 |cons b s ih=>
  intro n h1 h2;have:=CD h1 (h b Al);exact ih (fun c hc=>h c (Ap _ hc)) _ this.1 this.2
section
variable [Inhabited aE]
noncomputable def Kr:TypeId->Option View:=fun t=>bif Nat.beq t Ty.string then some ⟨Bs,dW⟩else none
noncomputable def bF (cJ:FuncId->Option aR) (iW:FuncId->Nat->Option bh):eZ:={tab:=jU,view:=Kr,cJ,iW}
def dA {Y:Type}:Y->FuncId->Nat->Option bh:=fun _ _ _=>none
def dO (f r:Nat) (A:bh):FuncId->Nat->Option bh:=fun g s=>bif Nat.beq g f&&Nat.beq s r then some A else none
def i64 (n:Int):SV:= .int .i64 n
def strs (l:List Bs):SV:= .aD Bs l dW
def tK:aR:={Y:=Bs×Int,pre:=fun y=>y.1.length<=1000000,args:=fun y=>[.str y.1, .int .u8 y.2],res:=fun y=>i64 (fC y.1 y.2)}
def qC (y:Bs×Int):bh:={α:=Nat,ok:=fun i=>i<=y.1.length/\ ∀j (h:j<y.1.length),j<i->nB y.1[j]≠y.2,μ:=fun i=>y.1.length - i,bI:=[],bJ:=fun i=>[(0, .str y.1),(1, .int .u8 y.2),(5,i64 (-1)),(8,i64 (Int.ofNat y.1.length)),(9,i64 i)],cU:=fun _=>[]}
def kP:aR:={Y:=Bs×Int,pre:=fun y=>y.1.length<=1000000,args:=fun y=>[.str y.1, .int .u8 y.2],res:=fun y=> .aO [.str (cC y.1 y.2).1, .str (cC y.1 y.2).2.1, .bool (cC y.1 y.2).2.2]}
def tm:aR:={Y:=Bs×Int,pre:=fun y=>y.1.length<=100000,args:=fun y=>[.str y.1, .int .u8 y.2],res:=fun y=>strs (aS y.1 y.2)}
def qa (y:Bs×Int):bh:={α:=Bs×List Bs,ok:=fun x=>aS y.1 y.2=x.2++aS x.1 y.2/\x.2.length+x.1.length<=y.1.length,μ:=fun x=>x.1.length,bI:=[],bJ:=fun x=>[(0, .str x.1),(1, .int .u8 y.2),(5, .own 0)],cU:=fun x=>[(0, .arr Bs x.2 dW Ty.string)]}
def kQ:aR:={Y:=UInt8,pre:=fun _=>True,args:=fun y=>[.int .u8 (nB y)],res:=fun y=> .bool (dJ y)}
def tJ:aR:={Y:=Bs,pre:=fun y=>y.length<=1000000,args:=fun y=>[.str y],res:=fun y=>i64 (dz y)}
def qB (y:Bs):bh:={α:=Nat,ok:=fun i=>i<=dz y,μ:=fun i=>y.length - i,bI:=[],bJ:=fun i=>[(0, .str y),(3,i64 i)],cU:=fun _=>[]}
def kR:aR:={Y:=Bs,pre:=fun y=>y.length<=1000000,args:=fun y=>[.str y],res:=fun y=> .aO [i64 (bT y).1, .bool (bT y).2]}
def fb (y:Bs):bh:={α:=Nat,ok:=fun i=>i<=(ar y).length/\ ∀b∈ar y,dJ b=true,μ:=fun i=>(ar y).length - i,bI:=[],bJ:=fun i=>[(4, .str (ar y)),(5,i64 (if bM y then -1 else 1)),(6,i64 (((ar y).take i).foldl cS 0)),(28,i64 (Int.ofNat (ar y).length)),(29,i64 i)],cU:=fun _=>[]}
noncomputable def qI (f:FuncId):Option aR:=bif Nat.beq f iN then some tK else none
noncomputable def qJ (f:FuncId):Option aR:=bif Nat.beq f l4 then some kP else qI f
noncomputable def qK (f:FuncId):Option aR:=bif Nat.beq f iM then some tm else bif Nat.beq f lP then some kQ else qJ f
noncomputable def qL (f:FuncId):Option aR:=bif Nat.beq f iH then some tJ else qK f
noncomputable def yH (f:FuncId):Option aR:=bif Nat.beq f iI then some kR else qL f
noncomputable def cH (_:FuncId):Option aR:=none
end
section
variable [Inhabited aE]
theorem JW:(cd (fun(y:aR.Y tK)=>bF cH (dO iN 3 (qC y))) 400 iN)=(∀(y:Bs×Int),
 y.1.length<=1000000->
 (∃(x:Nat),
 (x<=y.1.length/\ ∀(j:Nat) (h:j<y.1.length),j<x->ay (nB y.1[j]) y.2->False)/\
 (y.1=y.1/\
 ay y.2 y.2/\
 ay (-1) (-1)/\ay (Int.ofNat y.1.length) (Int.ofNat y.1.length)/\ay 0 ↑x/\True)/\
 True/\True)/\
 ∀(x:Nat),
 (x<=y.1.length/\ ∀(j:Nat) (h:j<y.1.length),j<x->ay (nB y.1[j]) y.2->False)->
 br (cu (↑x) (Int.ofNat y.1.length))
 (so y.1[Int.toNat ↑x]? fun(val:UInt8)=>
 br (Int.ofNat (UInt8.toNat val)==y.2) (ay (↑x) (fC y.1 y.2)/\True)
 (ck (cg .i64 (↑x+1))
 (∃(y_1:Nat),
 (y_1<=y.1.length/\ ∀(j:Nat) (h:j<y.1.length),j<y_1->ay (nB y.1[j]) y.2->False)/\
 bh.μ (qC y) y_1<bh.μ (qC y) x/\
 (y.1=y.1/\
 ay y.2 y.2/\
 ay (-1) (-1)/\ay (Int.ofNat y.1.length) (Int.ofNat y.1.length)/\ay (↑x+1) ↑y_1/\True)/\
 True/\True)))
 (ay (-1) (fC y.1 y.2)/\True)):=by kernel_rfl
theorem Jx:(cd (fun(y:aR.Y kP)=>bF qI (dA y)) 400 l4)=(∀(y:Bs×Int),
 y.1.length<=1000000->
 ∃(y_1:Bs×Int),
 y.1=y_1.1/\
 ay y.2 y_1.2/\
 y_1.1.length<=1000000/\
 br (cu (fC y_1.1 y_1.2) 0)
 (y.1=Prod.fst (cC y.1 y.2)/\
 Array.toList (ByteArray.data {data:=#[]})=Prod.fst (Prod.snd (cC y.1 y.2))/\
 false=Prod.snd (Prod.snd (cC y.1 y.2))/\True)
 (ck (nn (fC y_1.1 y_1.2))
 (ck (Nat.ble (Int.toNat (fC y_1.1 y_1.2)) y.1.length)
 (ck (cg .i64 (fC y_1.1 y_1.2+1))
 (ck (nn (fC y_1.1 y_1.2+1))
 (ck (Nat.ble (Int.toNat (fC y_1.1 y_1.2+1)) y.1.length)
 (List.take (Int.toNat (fC y_1.1 y_1.2)) y.1=Prod.fst (cC y.1 y.2)/\
 List.drop (Int.toNat (fC y_1.1 y_1.2+1)) y.1=Prod.fst (Prod.snd (cC y.1 y.2))/\
 true=Prod.snd (Prod.snd (cC y.1 y.2))/\True))))))):=by kernel_rfl
theorem IZ:(cd (fun(y:aR.Y tm)=>bF qJ (dO iM 2 (qa y))) 400 iM)=(∀(y:Bs×Int),
 y.1.length<=100000->
 (∃(x:Bs×List Bs),
 (aS y.1 y.2=x.2++aS x.1 y.2/\
 x.2.length+x.1.length<=y.1.length)/\
 (y.1=x.1/\ay y.2 y.2/\True/\True)/\
 ((x.2=[]/\ ∀(x:Bs),List.length (dW x)=1)/\True)/\True)/\
 ∀(x:Bs×List Bs),
 aS y.1 y.2=x.2++aS x.1 y.2/\
 x.2.length+x.1.length<=y.1.length->
 ∃(y_1:Bs×Int),
 x.1=y_1.1/\
 ay y.2 y_1.2/\
 y_1.1.length<=1000000/\
 ∃(x_1:Bs),
 [SV.str x_1]=[SV.str (Prod.fst (cC y_1.1 y_1.2))]/\
 ck (Nat.ble ((x.2.length+List.length [x_1])*16) 16777216&&Nat.ble (x.2.length+List.length [x_1]) 16777216)
 (br (!Prod.snd (Prod.snd (cC y_1.1 y_1.2)))
 (SV.aD Bs (x.2++[x_1]) dW=SV.aD Bs (aS y.1 y.2) dW/\
 True)
 (∃(y_2:Bs×List Bs),
 (aS y.1 y.2=y_2.2++aS y_2.1 y.2/\
 y_2.2.length+y_2.1.length<=y.1.length)/\
 bh.μ (qa y) y_2<bh.μ (qa y) x/\
 (Prod.fst (Prod.snd (cC y_1.1 y_1.2))=y_2.1/\ay y.2 y.2/\True/\True)/\
 (SV.aD Bs (x.2++[x_1]) dW=SV.aD Bs y_2.2 dW/\True)/\True))):=by kernel_rfl
theorem Jy:(cd (fun(y:aR.Y kQ)=>bF cH (dA y)) 400 lP)=(∀(y:UInt8),True->br (cl 48 (nB y)) (cl (nB y) 57=dJ y/\True) (false=dJ y/\True)):=by kernel_rfl
theorem JV:(cd (fun(y:aR.Y tJ)=>bF qK (dO iH 2 (qB y))) 400 iH)=(∀(y:List UInt8),
 y.length<=1000000->
 (∃(x:Nat),x<=dz y/\(y=y/\ay 0 ↑x/\True)/\True/\True)/\
 ∀(x:Nat),
 x<=dz y->
 br (cu (↑x) (Int.ofNat y.length))
 (so y[Int.toNat ↑x]? fun(val:UInt8)=>
 ∃(y_1:UInt8),
 ay (Int.ofNat (UInt8.toNat val)) (nB y_1)/\
 True/\
 br (dJ y_1)
 (ck (cg .i64 (↑x+1))
 (∃(y_2:Nat),
 y_2<=dz y/\
 bh.μ (qB y) y_2<bh.μ (qB y) x/\(y=y/\ay (↑x+1) ↑y_2/\True)/\True/\True))
 (ay ↑x ↑(dz y)/\True))
 (ay ↑x ↑(dz y)/\True)):=by kernel_rfl
theorem Jz:(cd (fun(y:aR.Y kR)=>bF qL (dO iI 8 (fb y))) 400 iI)=(∀(y:List UInt8),
 y.length<=1000000->
 br (!y==Array.toList (ByteArray.data {data:=#[]}))
 (so y[Int.toNat 0]? fun(val:UInt8)=>
 br (Int.ofNat (UInt8.toNat val)==45)
 (ck (Nat.ble (Int.toNat 1) y.length)
 (br (List.drop (Int.toNat 1) y==Array.toList (ByteArray.data {data:=#[]}))
 (ay 0 (Prod.fst (bT y))/\false=Prod.snd (bT y)/\True)
 (∃(y_1:List UInt8),
 List.drop (Int.toNat 1) y=y_1/\
 y_1.length<=1000000/\
 br (cu (↑(dz y_1)) (Int.ofNat (List.length (List.drop (Int.toNat 1) y))))
 (ay 0 (Prod.fst (bT y))/\false=Prod.snd (bT y)/\True)
 ((∃(x:Nat),
 (x<=List.length (ar y)/\ ∀(b:UInt8),b∈ar y->dJ b=true)/\
 (List.drop (Int.toNat 1) y=ar y/\
 ay (-1) (if bM y=true then -1 else 1)/\
 ay 0 (List.foldl cS 0 (List.take x (ar y)))/\
 ay (Int.ofNat (List.length (List.drop (Int.toNat 1) y))) (Int.ofNat (List.length (ar y)))/\ay 0 ↑x/\True)/\
 True/\True)/\
 ∀(x:Nat),
 (x<=List.length (ar y)/\ ∀(b:UInt8),b∈ar y->dJ b=true)->
 br (cu (↑x) (Int.ofNat (List.length (ar y))))
 (ck (cg .i64 (List.foldl cS 0 (List.take x (ar y))*10))
 (so (ar y)[Int.toNat ↑x]? fun(val:UInt8)=>
 ck
 (cg .i64
 (List.foldl cS 0 (List.take x (ar y))*10+
 Go.IntKind.wrap .i64 (Go.IntKind.wrap Go.IntKind.u8 (Int.ofNat (UInt8.toNat val) - 48))))
 (ck (cg .i64 (↑x+1))
 (∃(y_2:Nat),
 (y_2<=List.length (ar y)/\ ∀(b:UInt8),b∈ar y->dJ b=true)/\
 bh.μ (fb y) y_2<bh.μ (fb y) x/\
 (ar y=ar y/\
 ay (if bM y=true then -1 else 1) (if bM y=true then -1 else 1)/\
 ay
 (if
 1099511627776<
 List.foldl cS 0 (List.take x (ar y))*10+
 Go.IntKind.wrap .i64 (Go.IntKind.wrap Go.IntKind.u8 (Int.ofNat (UInt8.toNat val) - 48))then
 1099511627776
 else
 List.foldl cS 0 (List.take x (ar y))*10+
 Go.IntKind.wrap .i64 (Go.IntKind.wrap Go.IntKind.u8 (Int.ofNat (UInt8.toNat val) - 48)))
 (List.foldl cS 0 (List.take y_2 (ar y)))/\
 ay (Int.ofNat (List.length (ar y))) (Int.ofNat (List.length (ar y)))/\
 ay (↑x+1) ↑y_2/\True)/\
 True/\True))))
 (ck
 (cg .i64 ((if bM y=true then -1 else 1)*List.foldl cS 0 (List.take x (ar y))))
 (ay ((if bM y=true then -1 else 1)*List.foldl cS 0 (List.take x (ar y)))
 (Prod.fst (bT y))/\
 true=Prod.snd (bT y)/\True))))))
 (br (y==Array.toList (ByteArray.data {data:=#[]})) (ay 0 (Prod.fst (bT y))/\false=Prod.snd (bT y)/\True)
 (∃(y_1:List UInt8),
 y=y_1/\
 y_1.length<=1000000/\
 br (cu (↑(dz y_1)) (Int.ofNat y.length))
 (ay 0 (Prod.fst (bT y))/\false=Prod.snd (bT y)/\True)
 ((∃(x:Nat),
 (x<=List.length (ar y)/\ ∀(b:UInt8),b∈ar y->dJ b=true)/\
 (y=ar y/\
 ay 1 (if bM y=true then -1 else 1)/\
 ay 0 (List.foldl cS 0 (List.take x (ar y)))/\
 ay (Int.ofNat y.length) (Int.ofNat (List.length (ar y)))/\ay 0 ↑x/\True)/\
 True/\True)/\
 ∀(x:Nat),
 (x<=List.length (ar y)/\ ∀(b:UInt8),b∈ar y->dJ b=true)->
 br (cu (↑x) (Int.ofNat (List.length (ar y))))
 (ck (cg .i64 (List.foldl cS 0 (List.take x (ar y))*10))
 (so (ar y)[Int.toNat ↑x]? fun(val:UInt8)=>
 ck
 (cg .i64
 (List.foldl cS 0 (List.take x (ar y))*10+
 Go.IntKind.wrap .i64 (Go.IntKind.wrap Go.IntKind.u8 (Int.ofNat (UInt8.toNat val) - 48))))
 (ck (cg .i64 (↑x+1))
 (∃(y_2:Nat),
 (y_2<=List.length (ar y)/\ ∀(b:UInt8),b∈ar y->dJ b=true)/\
 bh.μ (fb y) y_2<bh.μ (fb y) x/\
 (ar y=ar y/\
 ay (if bM y=true then -1 else 1) (if bM y=true then -1 else 1)/\
 ay
 (if
 1099511627776<
 List.foldl cS 0 (List.take x (ar y))*10+
 Go.IntKind.wrap .i64 (Go.IntKind.wrap Go.IntKind.u8 (Int.ofNat (UInt8.toNat val) - 48))then
 1099511627776
 else
 List.foldl cS 0 (List.take x (ar y))*10+
 Go.IntKind.wrap .i64 (Go.IntKind.wrap Go.IntKind.u8 (Int.ofNat (UInt8.toNat val) - 48)))
 (List.foldl cS 0 (List.take y_2 (ar y)))/\
 ay (Int.ofNat (List.length (ar y))) (Int.ofNat (List.length (ar y)))/\
 ay (↑x+1) ↑y_2/\True)/\
 True/\True))))
 (ck (cg .i64 ((if bM y=true then -1 else 1)*List.foldl cS 0 (List.take x (ar y))))
 (ay ((if bM y=true then -1 else 1)*List.foldl cS 0 (List.take x (ar y)))
 (Prod.fst (bT y))/\
 true=Prod.snd (bT y)/\True))))))
 (br (y==Array.toList (ByteArray.data {data:=#[]})) (ay 0 (Prod.fst (bT y))/\false=Prod.snd (bT y)/\True)
 (∃(y_1:List UInt8),
 y=y_1/\
 y_1.length<=1000000/\
 br (cu (↑(dz y_1)) (Int.ofNat y.length))
 (ay 0 (Prod.fst (bT y))/\false=Prod.snd (bT y)/\True)
 ((∃(x:Nat),
 (x<=List.length (ar y)/\ ∀(b:UInt8),b∈ar y->dJ b=true)/\
 (y=ar y/\
 ay 1 (if bM y=true then -1 else 1)/\
 ay 0 (List.foldl cS 0 (List.take x (ar y)))/\
 ay (Int.ofNat y.length) (Int.ofNat (List.length (ar y)))/\ay 0 ↑x/\True)/\
 True/\True)/\
 ∀(x:Nat),
 (x<=List.length (ar y)/\ ∀(b:UInt8),b∈ar y->dJ b=true)->
 br (cu (↑x) (Int.ofNat (List.length (ar y))))
 (ck (cg .i64 (List.foldl cS 0 (List.take x (ar y))*10))
 (so (ar y)[Int.toNat ↑x]? fun(val:UInt8)=>
 ck
 (cg .i64
 (List.foldl cS 0 (List.take x (ar y))*10+
 Go.IntKind.wrap .i64 (Go.IntKind.wrap Go.IntKind.u8 (Int.ofNat (UInt8.toNat val) - 48))))
 (ck (cg .i64 (↑x+1))
 (∃(y_2:Nat),
 (y_2<=List.length (ar y)/\ ∀(b:UInt8),b∈ar y->dJ b=true)/\
 bh.μ (fb y) y_2<bh.μ (fb y) x/\
 (ar y=ar y/\
 ay (if bM y=true then -1 else 1) (if bM y=true then -1 else 1)/\
 ay
 (if
 1099511627776<
 List.foldl cS 0 (List.take x (ar y))*10+
 Go.IntKind.wrap .i64 (Go.IntKind.wrap Go.IntKind.u8 (Int.ofNat (UInt8.toNat val) - 48))then
 1099511627776
 else
 List.foldl cS 0 (List.take x (ar y))*10+
 Go.IntKind.wrap .i64 (Go.IntKind.wrap Go.IntKind.u8 (Int.ofNat (UInt8.toNat val) - 48)))
 (List.foldl cS 0 (List.take y_2 (ar y)))/\
 ay (Int.ofNat (List.length (ar y))) (Int.ofNat (List.length (ar y)))/\
 ay (↑x+1) ↑y_2/\True)/\
 True/\True))))
 (ck (cg .i64 ((if bM y=true then -1 else 1)*List.foldl cS 0 (List.take x (ar y))))
 (ay ((if bM y=true then -1 else 1)*List.foldl cS 0 (List.take x (ar y)))
 (Prod.fst (bT y))/\
 true=Prod.snd (bT y)/\True)))))):=by kernel_rfl
end
section
variable [Inhabited aE]
abbrev CO (f:FuncId) (C:aR):Prop:=Go.Sy.bq  Tryz.prog Tryz.tab f C
theorem gR:∀g C,cH g=some C->CO g C:=fun _ _ h=>by cases h
theorem eG (i:Nat) (h:i<1000000000):cg .i64 ((i:Int)+1)=true:=by rw[kz];omega
theorem yg (b:UInt8):Int.ofNat b.toNat=nB b:=rfl
theorem Gr {s:Bs} {c:Int} {i:Nat} (h:i<s.length) (h1:nB s[i]=c) (h2:∀(j:Nat) (h:j<s.length),j<i->nB s[j]=c->False):fC s c=i:=by
 have:cV s c=some i:=dI.2 ⟨h,h1,fun j hj=>h2 j (by omega) hj⟩;unfold fC;rw[this]
theorem Gs {s:Bs} {c:Int} (h2:∀(j:Nat) (h:j<s.length),nB s[j]=c->False):fC s c= -1:=by
 have:cV s c=none:=gM.2 h2;unfold fC;rw[this]
theorem Ft (s:Bs) (c:Int) (i:Nat) (hall:∀(j:Nat) (h:j<s.length),j<i->nB s[j]=c->False) (hi:i<=s.length) (h:¬(i:Int)<Int.ofNat s.length):fC s c= -1:=
 Gs fun j hj=>hall j hj (by simp only[Ak]at h;omega)
theorem II:CO iN tK:=cZ (cfg:=fun y=>bF cH (dO iN 3 (qC y))) cB (fun _=>rfl) (fun _=>gR) (n:=400) (by
 rw[JW];rintro⟨s,c⟩ hpre;simp only at hpre;refine⟨⟨0,⟨by simp,fun j h hj=>by omega⟩,⟨rfl,rfl,rfl,rfl,rfl,trivial⟩,trivial,trivial⟩,?_⟩;rintro i ⟨hi,hall⟩;simp only[ak,aN,aB,de,Ao,As,DA]at hi hall⊢;refine⟨fun hlt=>?_,fun hge=>(Ft s c i hall hi hge).symm⟩;have hlt':i<s.length:=by simp only[Ak]at hlt;omega
 refine⟨s[i],by simp[hlt'],fun h1=>(Gr hlt' (by simpa [nB]using h1) hall).symm,fun h1=>⟨eG i (by omega),i+1,⟨by omega,fun j h hj he=>?_⟩,?_,by simp[ay]⟩⟩
 . by_cases hji:j=i
   . subst hji;exact absurd he (by simpa [nB]using h1)
   . exact hall j h (by omega) he
 . show s.length - (i+1)<s.length - i
   omega)
theorem wV:∀g C,qI g=some C->CO g C:=dw II wG
theorem Fq (s:Bs) (c:Int):(∃i,cV s c=some i/\fC s c=(i:Int)/\i<s.length)\/(cV s c=none/\fC s c= -1):=by
 unfold fC
 cases h:cV s c with
 |none=>exact .inr ⟨rfl,rfl⟩
 |some i=>
  obtain⟨h1,_⟩:=dI.1 h;exact .inl ⟨i,rfl,rfl,h1⟩
theorem Js:CO l4 kP:=cZ (cfg:=fun y=>bF qI (dA y)) cB (fun _=>rfl) (fun _=>wV) (n:=400) (by
 rw[Jx];rintro⟨s,c⟩ hpre;refine⟨(s,c),rfl,rfl,hpre,?_⟩;simp only at hpre⊢;rcases Fq s c with⟨i,h1,h2,h3⟩|⟨h1,h2⟩
 . simp only[ak,aB,h2,cC,h1,de,qS,Ao,As];refine⟨fun h=>by omega,fun _=>⟨by omega,?_,?_,by omega,?_,?_⟩⟩
   . rw[Be];simp;omega
   . exact eG i (by omega)
   . rw[Be];omega
   . rw[show((i:Int)+1).toNat=i+1 by omega];simp
 . simp only[ak,aB,h2,cC,h1,de,qS,Ao,As];exact⟨fun _=>by simp,fun h=>absurd (by decide) h⟩)
theorem wW:∀g C,qJ g=some C->CO g C:=dw Js wV
theorem HF:CO iM tm:=cZ (cfg:=fun y=>bF qJ (dO iM 2 (qa y))) cB (fun _=>rfl) (fun _=>wW) (n:=400) (by
 rw[IZ];rintro⟨s,c⟩ hpre;simp only at hpre;refine⟨⟨(s,[]),⟨by simp,by simp⟩,⟨rfl,rfl,trivial,trivial⟩,⟨⟨rfl,fun _=>rfl⟩,trivial⟩,trivial⟩,?_⟩;rintro⟨t,l⟩ ⟨h1,h2⟩;simp only at h1 h2;refine⟨(t,c),rfl,rfl,by simp only;omega,(cC t c).1,rfl,?_⟩;simp only[ak,aB];refine⟨by simp;omega,fun h=>⟨?_,trivial⟩,fun h=>⟨((cC t c).2.1,l++[(cC t c).1]),⟨?_,?_⟩,?_,by simp[ay]⟩⟩
 . have h3:=vK t c
   cases hp:cV t c with
   |none=>rw[hp]at h3;simp only at h3;simp only[cC,hp];rw[h1,h3]
   |some i=>simp[cC,hp]at h
 . have h3:=vK t c
   cases hp:cV t c with
   |none=>simp[cC,hp]at h
   |some i=>rw[hp]at h3;simp only at h3;simp only[cC,hp];rw[h1,h3];simp
 . cases hp:cV t c with
   |none=>simp[cC,hp]at h
   |some i=>
    obtain⟨h4,_⟩:=dI.1 hp;simp[cC,hp];omega
 . show(cC t c).2.1.length<t.length
   cases hp:cV t c with
   |none=>simp[cC,hp]at h
   |some i=>
    obtain⟨h4,_⟩:=dI.1 hp;simp[cC,hp];omega)
theorem Jt:CO lP kQ:=cZ (cfg:=fun y=>bF cH (dA y)) cB (fun _=>rfl) (fun _=>gR) (n:=400) (by
 rw[Jy];intro y _;simp only[ak,gl,dJ,DA];constructor<;>intro h<;>simp[h])
theorem wX:∀g C,qK g=some C->CO g C:=dw HF (dw Jt wW)
theorem IH:CO iH tJ:=cZ (cfg:=fun y=>bF qK (dO iH 2 (qB y))) cB (fun _=>rfl) (fun _=>wX) (n:=400) (by
 rw[JV];intro s hpre;refine⟨⟨0,by simp,⟨rfl,rfl,trivial⟩,trivial,trivial⟩,?_⟩;intro i hi;have hle:=sE s;simp only[ak,aN,aB,de,Ao,As,DA];refine⟨fun hlt=>?_,fun hge=>?_⟩
 . have hlt':i<s.length:=by simp only[Ak]at hlt;omega
   refine⟨s[i],by simp[hlt'],s[i],rfl,trivial,fun h=>⟨eG i (by omega),i+1,?_,?_,by simp[ay]⟩,fun h=>?_⟩
   . apply BJ;intro hn;have:dz s=i:=by omega
     have h2:=wH (s:=s) (by omega);simp only[this]at h2;rw[h]at h2
     cases h2
   . show s.length - (i+1)<s.length - i
     omega
   . apply BJ;intro hn;have hlt2:i<dz s:=by simp only[ay]at hn;omega
     obtain⟨_,h2⟩:=Fk hlt2;rw[h2]at h
     cases h
 . simp only[Ak]at hge;simp only[ay];omega)
theorem wj (n:Int) (h: -9223372036854775808<=n/\n<=9223372036854775807):Go.IntKind.wrap Go.IntKind.i64 n=n:=by rw[IntKind.wrap_i64];omega
theorem HJ {b:UInt8} (h:dJ b=true):Go.IntKind.wrap Go.IntKind.i64 (Go.IntKind.wrap Go.IntKind.u8 (Int.ofNat (UInt8.toNat b) - 48))=nB b - 48/\Go.IntKind.wrap Go.IntKind.i64 (Int.ofNat (UInt8.toNat b))=nB b/\0<=nB b - 48/\nB b - 48<=9:=by
 rw[wm]at h;rw[yg];have h1:Go.IntKind.wrap Go.IntKind.u8 (nB b - 48)=nB b - 48:=by simp only[IntKind.wrap,IntKind.signed,IntKind.bits,Dv,Ah,Ax];omega
 rw[h1,wj _ (by omega),wj _ (by omega)];exact⟨rfl,rfl,by omega,by omega⟩
theorem fold_succ (s:Bs) (x:Nat) (h:x<s.length):(s.take (x+1)).foldl cS 0=cS ((s.take x).foldl cS 0) s[x]:=by
 rw[AP h,List.foldl_append];rfl
theorem E6 (s:Bs) (h:∀b∈s,dJ b=true) (x:Nat):0<=(s.take x).foldl cS 0/\(s.take x).foldl cS 0<=1099511627776:=
 CF _ (fun b hb=>h b (List.mem_of_mem_take hb)) 0 (by omega) (by omega)
theorem HU {y:Bs} (hne:ar y≠[]) (hd:∀b∈ar y,dJ b=true):bT y=((if bM y then -1 else 1)*(ar y).foldl cS 0,true):=by
 have h1:¬dz (ar y)<(ar y).length:=by
  intro h;have h2:=wH h;rw[hd _ (AX h)]at h2
  cases h2
 unfold bT;rw[Ae (by rintro(h|h);exact hne h;exact h1 h)]
theorem tC {y:Bs} (h:ar y=[]\/dz (ar y)<(ar y).length):bT y=(0,false):=by
 unfold bT;rw[Ai h]
theorem xq (y t:Bs) (K:Int) (ht:t=ar y) (hK:K=if bM y=true then -1 else 1) (hne:ar y≠[]) (hd:∀b∈ar y,dJ b=true) (hl:(ar y).length<=1000000):((∃(x:Nat),
      (x<=List.length (ar y)/\ ∀(b:UInt8),b∈ar y->dJ b=Bool.true)/\
      (t=ar y/\
      ay K (if bM y=Bool.true then -1 else 1)/\
      ay 0 (List.foldl cS 0 (List.take x (ar y)))/\
      ay (Int.ofNat (List.length t)) (Int.ofNat (List.length (ar y)))/\ay 0 ↑x/\True)/\
      True/\True)/\
      ∀(x:Nat),
      (x<=List.length (ar y)/\ ∀(b:UInt8),b∈ar y->dJ b=Bool.true)->
      br (cu (↑x) (Int.ofNat (List.length (ar y))))
      (ck (cg Go.IntKind.i64 (List.foldl cS 0 (List.take x (ar y))*10))
      (so (ar y)[Int.toNat ↑x]? fun(val:UInt8)=>
      ck
      (cg Go.IntKind.i64
      (List.foldl cS 0 (List.take x (ar y))*10+
      Go.IntKind.wrap Go.IntKind.i64 (Go.IntKind.wrap Go.IntKind.u8 (Int.ofNat (UInt8.toNat val) - 48))))
      (ck (cg Go.IntKind.i64 (↑x+1))
      (∃(y_2:Nat),
      (y_2<=List.length (ar y)/\ ∀(b:UInt8),b∈ar y->dJ b=Bool.true)/\
      bh.μ (fb y) y_2<bh.μ (fb y) x/\
      (ar y=ar y/\
      ay (if bM y=Bool.true then -1 else 1) (if bM y=Bool.true then -1 else 1)/\
      ay
      (if
      1099511627776<
      List.foldl cS 0 (List.take x (ar y))*10+
      Go.IntKind.wrap Go.IntKind.i64 (Go.IntKind.wrap Go.IntKind.u8 (Int.ofNat (UInt8.toNat val) - 48))then
      1099511627776
      else
      List.foldl cS 0 (List.take x (ar y))*10+
      Go.IntKind.wrap Go.IntKind.i64 (Go.IntKind.wrap Go.IntKind.u8 (Int.ofNat (UInt8.toNat val) - 48)))
      (List.foldl cS 0 (List.take y_2 (ar y)))/\
      ay (Int.ofNat (List.length (ar y))) (Int.ofNat (List.length (ar y)))/\
      ay (↑x+1) ↑y_2/\True)/\
      True/\True))))
      (ck
      (cg Go.IntKind.i64 ((if bM y=Bool.true then -1 else 1)*List.foldl cS 0 (List.take x (ar y))))
      (ay ((if bM y=Bool.true then -1 else 1)*List.foldl cS 0 (List.take x (ar y)))
      (Prod.fst (bT y))/\
      Bool.true=Prod.snd (bT y)/\True))):=by
 refine⟨⟨0,⟨by simp,hd⟩,⟨ht,hK,by simp[ay],by rw[ht],by simp[ay],trivial⟩,trivial,trivial⟩,?_⟩;rintro x ⟨hx,_⟩;obtain⟨r1,r2⟩:=E6 _ hd x;simp only[ak,aN,aB,de,Ao,As,DA];refine⟨fun hlt=>?_,fun hge=>?_⟩
 . have hlt':x<(ar y).length:=by simp only[Ak]at hlt;omega
   obtain⟨d1,_,d3,d4⟩:=HJ (hd _ (AX hlt'));refine⟨by rw[kz];omega,(ar y)[x],by simp[hlt'],?_,eG x (by omega),x+1,⟨by omega,hd⟩,?_,?_⟩
   . rw[d1,kz];omega
   . show(ar y).length - (x+1)<(ar y).length - x
     omega
   . refine⟨trivial,trivial,?_,trivial,by simp[ay]⟩;rw[fold_succ _ _ hlt',d1];simp only[cS,ay];omega
 . have he:x=(ar y).length:=by simp only[Ak]at hge;omega
   subst he;rw[D5,HU hne hd]at*;refine⟨?_,by simp[ay]⟩;rw[kz];split<;>omega
theorem si {y:Bs} (h:bM y=true):ar y=y.drop 1:=by unfold ar;rw[Ai h]
theorem wO {y:Bs} (h:bM y=false):ar y=y:=by unfold ar;rw[Ae (by simp[h])]
theorem nS {b:UInt8} {y:Bs}:bM (b::y)=(Int.ofNat b.toNat==45):=rfl
theorem vE {y:Bs} (h:¬(↑(dz y):Int)<Int.ofNat y.length):∀b∈y,dJ b=true:=Fj (by simp only[Ak]at h;omega)
theorem wY:∀g C,qL g=some C->CO g C:=dw IH wX
theorem Ju:CO iI kR:=cZ (cfg:=fun y=>bF qL (dO iI 8 (fb y))) cB (fun _=>rfl) (fun _=>wY) (n:=400) (by
 rw[Jz];intro y hpre
 cases y with
 |nil=>
  have hn:bT []=(0,false):=rfl;refine ak.2 ⟨fun h=>by simp at h,fun _=>ak.2 ⟨fun _=>by rw[hn];exact⟨rfl,rfl,trivial⟩,fun h=>by simp at h⟩⟩
 |cons b s=>
  refine ak.2 ⟨fun _=>aN.2 ⟨b,rfl,ak.2 ⟨fun hb=>aB.2 ⟨by simp,ak.2 ⟨fun h=>?_,fun h=>⟨s,rfl,by simp at hpre;omega,ak.2 ⟨fun hd=>?_,fun hd=>?_⟩⟩⟩⟩,fun hb=>ak.2 ⟨fun h=>by simp at h,fun _=>⟨b::s,rfl,hpre,ak.2 ⟨fun hd=>?_,fun hd=>?_⟩⟩⟩⟩⟩,fun h=>by simp at h⟩
  . have hg:bM (b::s)=true:=by rw[nS];exact hb
    have he:ar (b::s)=[]:=by rw[si hg];simpa using h
    rw[tC (.inl he)];exact⟨rfl,rfl,trivial⟩
  . have hg:bM (b::s)=true:=by rw[nS];exact hb
    rw[de,Ao]at hd;rw[tC (.inr (by rw[si hg];simp only[Ak]at hd;simp at hd⊢;omega))];exact⟨rfl,rfl,trivial⟩
  . have hg:bM (b::s)=true:=by rw[nS];exact hb
    rw[de,As]at hd;have ha:=si hg;exact xq _ _ _ ha.symm (by rw[Ai hg]) (by rw[ha];simpa using h) (by rw[ha];exact vE hd) (by rw[ha];simp at hpre⊢;omega)
  . have hg:bM (b::s)=false:=by rw[nS];exact hb
    rw[de,Ao]at hd;rw[tC (.inr (by rw[wO hg];simp only[Ak]at hd;omega))];exact⟨rfl,rfl,trivial⟩
  . have hg:bM (b::s)=false:=by rw[nS];exact hb
    rw[de,As]at hd;have ha:=wO hg;exact xq _ _ _ ha.symm (by rw[Ae (by simp[hg])]) (by rw[ha];simp) (by rw[ha];exact vE hd) (by rw[ha];exact hpre))
theorem GY:∀g C,yH g=some C->CO g C:=dw Ju wY
end
section
variable [Inhabited aE]
def tl:aR:={Y:=UInt8×Bool,pre:=fun _=>True,args:=fun y=>[.int .u8 (nB y.1), .bool y.2],res:=fun y=> .bool (eg (nB y.1) y.2)}
def gd (p:Bs->Bool):aR:={Y:=Bs,pre:=fun y=>y.length<=100000,args:=fun y=>[.str y],res:=fun y=> .bool (p y)}
def kx (y:Bs):bh:={α:=Nat,ok:=fun i=>i<=y.length/\ ∀j (h:j<y.length),j<i->eg (nB y[j]) (j==0||j==y.length - 1)=true,μ:=fun i=>y.length - i,bI:=[],bJ:=fun i=>[(0, .str y),(12,i64 (Int.ofNat y.length)),(13,i64 i)],cU:=fun _=>[]}
def kA (y:Bs):bh:={α:=Nat,ok:=fun i=>i<=(aS y 46).length/\ ∀j (h:j<(aS y 46).length),j<i->gp (aS y 46)[j]=true,μ:=fun i=>(aS y 46).length - i,bI:=[],bJ:=fun i=>[(13,strs (aS y 46)),(14,i64 (Int.ofNat (aS y 46).length)),(15,i64 i)],cU:=fun _=>[]}
def eO (y:Bs):bh:=let l:=(y.drop 1).take (y.length - 2);{α:=Nat,ok:=fun i=>i<=l.length/\ ∀j (h:j<l.length),j<i->dv l[j]=true,μ:=fun i=>l.length - i,bI:=[],bJ:=fun i=>[(31, .aD UInt8 l bL),(32,i64 (Int.ofNat l.length)),(33,i64 i)],cU:=fun _=>[]}
def qD (y:Bs):bh:={α:=Nat,ok:=fun i=>i<=(aS y 46).length/\ ∀j (h:j<(aS y 46).length),j<i->eI (aS y 46)[j]=true,μ:=fun i=>(aS y 46).length - i,bI:=[],bJ:=fun i=>[(13,strs (aS y 46)),(14,i64 (Int.ofNat (aS y 46).length)),(15,i64 i)],cU:=fun _=>[]}
def sX:aR:={Y:=Bs,pre:=fun y=>y.length<=100000,args:=fun y=>[.str y],res:=fun y=>strs (if dR y then aS y 46 else[])}
def mB:aR:={Y:=Bs×Bs,pre:=fun y=>y.1.length<=100000/\y.2.length<=100000,args:=fun y=>[.str y.1, .str y.2],res:=fun y=> .bool (decide (y.1.take y.2.length=y.2))}
def tk:aR:={Y:=Bs,pre:=fun y=>y.length<=100000,args:=fun y=>[.str y],res:=fun y=> .aO [.agg [.str (eb y).1, .bool (eb y).2.1, .bool (eb y).2.2], .bool (fA y)]}
def jN (l:List Bs):Int:=if 256<l.length then 3 else if l.all fA then 0 else 1
def sW:aR:={Y:=List Bs,pre:=fun y=>y.length<=100000/\ ∀s∈y,s.length<=100000,args:=fun y=>[strs y],res:=fun y=>i64 (jN y)}
def pU (y:List Bs):bh:={α:=Nat,ok:=fun i=>i<=y.length/\ ∀j (h:j<y.length),j<i->fA y[j]=true,μ:=fun i=>y.length - i,bI:=[],bJ:=fun i=>[(10,strs y),(11,i64 (Int.ofNat y.length)),(12,i64 i)],cU:=fun _=>[]}
noncomputable def kD (f:FuncId):Option aR:=bif Nat.beq f l5 then some tl else yH f
noncomputable def qn (f:FuncId):Option aR:=bif Nat.beq f iO then some (gd eI)else bif Nat.beq f iR then some (gd fi)else bif Nat.beq f iK then some (gd ez)else kD f
noncomputable def qo (f:FuncId):Option aR:=bif Nat.beq f lM then some (gd jf)else qn f
noncomputable def mL (f:FuncId):Option aR:=bif Nat.beq f iS then some (gd dR)else bif Nat.beq f tY then some mB else qo f
noncomputable def qp (f:FuncId):Option aR:=bif Nat.beq f lT then some sX else bif Nat.beq f lI then some mB else mL f
noncomputable def qq (f:FuncId):Option aR:=bif Nat.beq f lN then some tk else qp f
noncomputable def yJ (f:FuncId):Option aR:=bif Nat.beq f iL then some sW else qq f
end
section
variable [Inhabited aE]
theorem IY:(cd (fun(y:aR.Y tl)=>bF cH (dA y)) 400 l5)=(∀(y:UInt8×Bool),
 True->
 br (nB y.1==45)
 (br y.2 (false=eg (nB y.1) y.2/\True)
 (true=eg (nB y.1) y.2/\True))
 (br (cl 97 (nB y.1))
 (br (cl (nB y.1) 122) (true=eg (nB y.1) y.2/\True)
 (br (cl 48 (nB y.1))
 (br (cl (nB y.1) 57) (true=eg (nB y.1) y.2/\True)
 (br (nB y.1==95) (true=eg (nB y.1) y.2/\True)
 (false=eg (nB y.1) y.2/\True)))
 (br (nB y.1==95) (true=eg (nB y.1) y.2/\True)
 (false=eg (nB y.1) y.2/\True))))
 (br (cl 48 (nB y.1))
 (br (cl (nB y.1) 57) (true=eg (nB y.1) y.2/\True)
 (br (nB y.1==95) (true=eg (nB y.1) y.2/\True)
 (false=eg (nB y.1) y.2/\True)))
 (br (nB y.1==95) (true=eg (nB y.1) y.2/\True)
 (false=eg (nB y.1) y.2/\True))))):=by kernel_rfl
theorem IW:(cd (fun(y:aR.Y (gd eI))=>bF kD (dO iO 4 (kx y))) 400 iO)=(∀(y:List UInt8),
 y.length<=100000->
 br (y==Array.toList (ByteArray.data {data:=#[]})) (false=eI y/\True)
 (br (cu 63 (Int.ofNat y.length)) (false=eI y/\True)
 ((∃(x:Nat),
 (x<=y.length/\ ∀(j:Nat) (h:j<y.length),j<x->eg (nB y[j]) (j==0||j==y.length - 1)=true)/\
 (y=y/\ay (Int.ofNat y.length) (Int.ofNat y.length)/\ay 0 ↑x/\True)/\True/\True)/\
 ∀(x:Nat),
 (x<=y.length/\ ∀(j:Nat) (h:j<y.length),j<x->eg (nB y[j]) (j==0||j==y.length - 1)=true)->
 br (cu (↑x) (Int.ofNat y.length))
 (so y[Int.toNat ↑x]? fun(val:UInt8)=>
 br ((↑x:Int)==0)
 (∃(y_1:UInt8×Bool),
 ay (Int.ofNat (UInt8.toNat val)) (nB y_1.1)/\
 true=y_1.2/\
 True/\
 br (!eg (nB y_1.1) y_1.2) (false=eI y/\True)
 (ck (cg .i64 (↑x+1))
 (∃(y_2:Nat),
 (y_2<=y.length/\
 ∀(j:Nat) (h:j<y.length),j<y_2->eg (nB y[j]) (j==0||j==y.length - 1)=true)/\
 bh.μ (kx y) y_2<bh.μ (kx y) x/\
 (y=y/\ay (Int.ofNat y.length) (Int.ofNat y.length)/\ay (↑x+1) ↑y_2/\True)/\True/\True)))
 (ck (cg .i64 (Int.ofNat y.length - 1))
 (∃(y_1:UInt8×Bool),
 ay (Int.ofNat (UInt8.toNat val)) (nB y_1.1)/\
 ((↑x:Int)==Int.ofNat y.length - 1)=y_1.2/\
 True/\
 br (!eg (nB y_1.1) y_1.2) (false=eI y/\True)
 (ck (cg .i64 (↑x+1))
 (∃(y_2:Nat),
 (y_2<=y.length/\
 ∀(j:Nat) (h:j<y.length),j<y_2->eg (nB y[j]) (j==0||j==y.length - 1)=true)/\
 bh.μ (kx y) y_2<bh.μ (kx y) x/\
 (y=y/\ay (Int.ofNat y.length) (Int.ofNat y.length)/\ay (↑x+1) ↑y_2/\True)/\True/\True)))))
 (true=eI y/\True)))):=by kernel_rfl
theorem JX:(cd (fun(y:aR.Y (gd fi))=>bF kD (dO iR 5 (kA y))) 400 iR)=(∀(y:List UInt8),
 y.length<=100000->
 ∃(y_1:Bs×Int),
 y=y_1.1/\
 ay 46 y_1.2/\
 y_1.1.length<=100000/\
 br (!Int.ofNat (List.length (aS y_1.1 y_1.2))==4) (false=fi y/\True)
 ((∃(x:Nat),
 (x<=List.length (aS y 46)/\
 ∀(j:Nat) (h:j<List.length (aS y 46)),j<x->gp (aS y 46)[j]=true)/\
 (SV.aD Bs (aS y_1.1 y_1.2) dW=SV.aD Bs (aS y 46) dW/\
 ay (Int.ofNat (List.length (aS y_1.1 y_1.2))) (Int.ofNat (List.length (aS y 46)))/\
 ay 0 ↑x/\True)/\
 True/\True)/\
 ∀(x:Nat),
 (x<=List.length (aS y 46)/\
 ∀(j:Nat) (h:j<List.length (aS y 46)),j<x->gp (aS y 46)[j]=true)->
 br (cu (↑x) (Int.ofNat (List.length (aS y 46))))
 (so (aS y 46)[Int.toNat ↑x]? fun(val:Bs)=>
 ∃(y_2:List UInt8),
 val=y_2/\
 y_2.length<=1000000/\
 br (val==Array.toList (ByteArray.data {data:=#[]})) (false=fi y/\True)
 (∃(y_3:List UInt8),
 val=y_3/\
 y_3.length<=1000000/\
 br (cu (↑(dz y_3)) (Int.ofNat val.length)) (false=fi y/\True)
 (br (cu 255 (Prod.fst (bT y_2))) (false=fi y/\True)
 (br (cu 1 (Int.ofNat val.length))
 (so val[Int.toNat 0]? fun(val:UInt8)=>
 br (Int.ofNat (UInt8.toNat val)==48) (false=fi y/\True)
 (ck (cg .i64 (↑x+1))
 (∃(y_4:Nat),
 (y_4<=List.length (aS y 46)/\
 ∀(j:Nat) (h:j<List.length (aS y 46)),
 j<y_4->gp (aS y 46)[j]=true)/\
 bh.μ (kA y) y_4<bh.μ (kA y) x/\
 (SV.aD Bs (aS y 46) dW=
 SV.aD Bs (aS y 46) dW/\
 ay (Int.ofNat (List.length (aS y 46))) (Int.ofNat (List.length (aS y 46)))/\
 ay (↑x+1) ↑y_4/\True)/\
 True/\True)))
 (ck (cg .i64 (↑x+1))
 (∃(y_4:Nat),
 (y_4<=List.length (aS y 46)/\
 ∀(j:Nat) (h:j<List.length (aS y 46)),j<y_4->gp (aS y 46)[j]=true)/\
 bh.μ (kA y) y_4<bh.μ (kA y) x/\
 (SV.aD Bs (aS y 46) dW=
 SV.aD Bs (aS y 46) dW/\
 ay (Int.ofNat (List.length (aS y 46))) (Int.ofNat (List.length (aS y 46)))/\
 ay (↑x+1) ↑y_4/\True)/\
 True/\True))))))
 (true=fi y/\True))):=by kernel_rfl
theorem IV:(cd (fun(y:aR.Y (gd ez))=>bF kD (dO iK 4 (eO y))) 400 iK)=(∀(y:List UInt8),
 y.length<=100000->
 br (cu (Int.ofNat y.length) 4) (false=ez y/\True)
 (br (cu 47 (Int.ofNat y.length)) (false=ez y/\True)
 (so y[Int.toNat 0]? fun(val:UInt8)=>
 br (!Int.ofNat (UInt8.toNat val)==91) (false=ez y/\True)
 (ck (cg .i64 (Int.ofNat y.length - 1))
 (ck (nn (Int.ofNat y.length - 1))
 (so y[Int.toNat (Int.ofNat y.length - 1)]? fun(val:UInt8)=>
 br (!Int.ofNat (UInt8.toNat val)==93) (false=ez y/\True)
 (ck (cg .i64 (Int.ofNat y.length - 1))
 (ck (nn (Int.ofNat y.length - 1))
 (ck (Nat.ble (Int.toNat 1) (Int.toNat (Int.ofNat y.length - 1))&&Nat.ble (Int.toNat (Int.ofNat y.length - 1)) y.length)
 ((∃(x:Nat),
 (x<=List.length (List.take (y.length - 2) (List.drop 1 y))/\
 ∀(j:Nat) (h:j<List.length (List.take (y.length - 2) (List.drop 1 y))),
 j<x->dv (List.take (y.length - 2) (List.drop 1 y))[j]=true)/\
 (SV.aD UInt8 (List.take (Int.toNat (Int.ofNat y.length - 1) - Int.toNat 1) (List.drop (Int.toNat 1) y)) bL=
 SV.aD UInt8 (List.take (y.length - 2) (List.drop 1 y)) bL/\
 ay (Int.ofNat (List.length (List.take (Int.toNat (Int.ofNat y.length - 1) - Int.toNat 1) (List.drop (Int.toNat 1) y))))
 (Int.ofNat (List.length (List.take (y.length - 2) (List.drop 1 y))))/\
 ay 0 ↑x/\True)/\
 True/\True)/\
 ∀(x:Nat),
 (x<=List.length (List.take (y.length - 2) (List.drop 1 y))/\
 ∀(j:Nat) (h:j<List.length (List.take (y.length - 2) (List.drop 1 y))),
 j<x->dv (List.take (y.length - 2) (List.drop 1 y))[j]=true)->
 br (cu (↑x) (Int.ofNat (List.length (List.take (y.length - 2) (List.drop 1 y)))))
 (so (List.take (y.length - 2) (List.drop 1 y))[Int.toNat ↑x]? fun(val:UInt8)=>
 br (cl 48 (Int.ofNat (UInt8.toNat val)))
 (br (cl (Int.ofNat (UInt8.toNat val)) 57)
 (ck (cg .i64 (↑x+1))
 (∃(y_1:Nat),
 (y_1<=List.length (List.take (y.length - 2) (List.drop 1 y))/\
 ∀(j:Nat) (h:j<List.length (List.take (y.length - 2) (List.drop 1 y))),
 j<y_1->dv (List.take (y.length - 2) (List.drop 1 y))[j]=true)/\
 bh.μ (eO y) y_1<bh.μ (eO y) x/\
 (SV.aD UInt8 (List.take (y.length - 2) (List.drop 1 y)) bL=
 SV.aD UInt8 (List.take (y.length - 2) (List.drop 1 y)) bL/\
 ay (Int.ofNat (List.length (List.take (y.length - 2) (List.drop 1 y))))
 (Int.ofNat (List.length (List.take (y.length - 2) (List.drop 1 y))))/\
 ay (↑x+1) ↑y_1/\True)/\
 True/\True))
 (br (cl 97 (Int.ofNat (UInt8.toNat val)))
 (br (cl (Int.ofNat (UInt8.toNat val)) 102)
 (ck (cg .i64 (↑x+1))
 (∃(y_1:Nat),
 (y_1<=List.length (List.take (y.length - 2) (List.drop 1 y))/\
 ∀(j:Nat) (h:j<List.length (List.take (y.length - 2) (List.drop 1 y))),
 j<y_1->dv (List.take (y.length - 2) (List.drop 1 y))[j]=true)/\
 bh.μ (eO y) y_1<bh.μ (eO y) x/\
 (SV.aD UInt8 (List.take (y.length - 2) (List.drop 1 y)) bL=
 SV.aD UInt8 (List.take (y.length - 2) (List.drop 1 y)) bL/\
 ay (Int.ofNat (List.length (List.take (y.length - 2) (List.drop 1 y))))
 (Int.ofNat (List.length (List.take (y.length - 2) (List.drop 1 y))))/\
 ay (↑x+1) ↑y_1/\True)/\
 True/\True))
 (br (Int.ofNat (UInt8.toNat val)==58)
 (ck (cg .i64 (↑x+1))
 (∃(y_1:Nat),
 (y_1<=List.length (List.take (y.length - 2) (List.drop 1 y))/\
 ∀(j:Nat) (h:j<List.length (List.take (y.length - 2) (List.drop 1 y))),
 j<y_1->dv (List.take (y.length - 2) (List.drop 1 y))[j]=true)/\
 bh.μ (eO y) y_1<bh.μ (eO y) x/\
 (SV.aD UInt8 (List.take (y.length - 2) (List.drop 1 y)) bL=
 SV.aD UInt8 (List.take (y.length - 2) (List.drop 1 y)) bL/\
 ay (Int.ofNat (List.length (List.take (y.length - 2) (List.drop 1 y))))
 (Int.ofNat (List.length (List.take (y.length - 2) (List.drop 1 y))))/\
 ay (↑x+1) ↑y_1/\True)/\
 True/\True))
 (br (!Int.ofNat (UInt8.toNat val)==46) (false=ez y/\True)
 (ck (cg .i64 (↑x+1))
 (∃(y_1:Nat),
 (y_1<=List.length (List.take (y.length - 2) (List.drop 1 y))/\
 ∀(j:Nat) (h:j<List.length (List.take (y.length - 2) (List.drop 1 y))),
 j<y_1->dv (List.take (y.length - 2) (List.drop 1 y))[j]=true)/\
 bh.μ (eO y) y_1<bh.μ (eO y) x/\
 (SV.aD UInt8 (List.take (y.length - 2) (List.drop 1 y)) bL=
 SV.aD UInt8 (List.take (y.length - 2) (List.drop 1 y)) bL/\
 ay (Int.ofNat (List.length (List.take (y.length - 2) (List.drop 1 y))))
 (Int.ofNat (List.length (List.take (y.length - 2) (List.drop 1 y))))/\
 ay (↑x+1) ↑y_1/\True)/\
 True/\True)))))
 (br (Int.ofNat (UInt8.toNat val)==58)
 (ck (cg .i64 (↑x+1))
 (∃(y_1:Nat),
 (y_1<=List.length (List.take (y.length - 2) (List.drop 1 y))/\
 ∀(j:Nat) (h:j<List.length (List.take (y.length - 2) (List.drop 1 y))),
 j<y_1->dv (List.take (y.length - 2) (List.drop 1 y))[j]=true)/\
 bh.μ (eO y) y_1<bh.μ (eO y) x/\
 (SV.aD UInt8 (List.take (y.length - 2) (List.drop 1 y)) bL=
 SV.aD UInt8 (List.take (y.length - 2) (List.drop 1 y)) bL/\
 ay (Int.ofNat (List.length (List.take (y.length - 2) (List.drop 1 y))))
 (Int.ofNat (List.length (List.take (y.length - 2) (List.drop 1 y))))/\
 ay (↑x+1) ↑y_1/\True)/\
 True/\True))
 (br (!Int.ofNat (UInt8.toNat val)==46) (false=ez y/\True)
 (ck (cg .i64 (↑x+1))
 (∃(y_1:Nat),
 (y_1<=List.length (List.take (y.length - 2) (List.drop 1 y))/\
 ∀(j:Nat) (h:j<List.length (List.take (y.length - 2) (List.drop 1 y))),
 j<y_1->dv (List.take (y.length - 2) (List.drop 1 y))[j]=true)/\
 bh.μ (eO y) y_1<bh.μ (eO y) x/\
 (SV.aD UInt8 (List.take (y.length - 2) (List.drop 1 y)) bL=
 SV.aD UInt8 (List.take (y.length - 2) (List.drop 1 y)) bL/\
 ay (Int.ofNat (List.length (List.take (y.length - 2) (List.drop 1 y))))
 (Int.ofNat (List.length (List.take (y.length - 2) (List.drop 1 y))))/\
 ay (↑x+1) ↑y_1/\True)/\
 True/\True))))))
 (br (cl 97 (Int.ofNat (UInt8.toNat val)))
 (br (cl (Int.ofNat (UInt8.toNat val)) 102)
 (ck (cg .i64 (↑x+1))
 (∃(y_1:Nat),
 (y_1<=List.length (List.take (y.length - 2) (List.drop 1 y))/\
 ∀(j:Nat) (h:j<List.length (List.take (y.length - 2) (List.drop 1 y))),
 j<y_1->dv (List.take (y.length - 2) (List.drop 1 y))[j]=true)/\
 bh.μ (eO y) y_1<bh.μ (eO y) x/\
 (SV.aD UInt8 (List.take (y.length - 2) (List.drop 1 y)) bL=
 SV.aD UInt8 (List.take (y.length - 2) (List.drop 1 y)) bL/\
 ay (Int.ofNat (List.length (List.take (y.length - 2) (List.drop 1 y))))
 (Int.ofNat (List.length (List.take (y.length - 2) (List.drop 1 y))))/\
 ay (↑x+1) ↑y_1/\True)/\
 True/\True))
 (br (Int.ofNat (UInt8.toNat val)==58)
 (ck (cg .i64 (↑x+1))
 (∃(y_1:Nat),
 (y_1<=List.length (List.take (y.length - 2) (List.drop 1 y))/\
 ∀(j:Nat) (h:j<List.length (List.take (y.length - 2) (List.drop 1 y))),
 j<y_1->dv (List.take (y.length - 2) (List.drop 1 y))[j]=true)/\
 bh.μ (eO y) y_1<bh.μ (eO y) x/\
 (SV.aD UInt8 (List.take (y.length - 2) (List.drop 1 y)) bL=
 SV.aD UInt8 (List.take (y.length - 2) (List.drop 1 y)) bL/\
 ay (Int.ofNat (List.length (List.take (y.length - 2) (List.drop 1 y))))
 (Int.ofNat (List.length (List.take (y.length - 2) (List.drop 1 y))))/\
 ay (↑x+1) ↑y_1/\True)/\
 True/\True))
 (br (!Int.ofNat (UInt8.toNat val)==46) (false=ez y/\True)
 (ck (cg .i64 (↑x+1))
 (∃(y_1:Nat),
 (y_1<=List.length (List.take (y.length - 2) (List.drop 1 y))/\
 ∀(j:Nat) (h:j<List.length (List.take (y.length - 2) (List.drop 1 y))),
 j<y_1->dv (List.take (y.length - 2) (List.drop 1 y))[j]=true)/\
 bh.μ (eO y) y_1<bh.μ (eO y) x/\
 (SV.aD UInt8 (List.take (y.length - 2) (List.drop 1 y)) bL=
 SV.aD UInt8 (List.take (y.length - 2) (List.drop 1 y)) bL/\
 ay (Int.ofNat (List.length (List.take (y.length - 2) (List.drop 1 y))))
 (Int.ofNat (List.length (List.take (y.length - 2) (List.drop 1 y))))/\
 ay (↑x+1) ↑y_1/\True)/\
 True/\True)))))
 (br (Int.ofNat (UInt8.toNat val)==58)
 (ck (cg .i64 (↑x+1))
 (∃(y_1:Nat),
 (y_1<=List.length (List.take (y.length - 2) (List.drop 1 y))/\
 ∀(j:Nat) (h:j<List.length (List.take (y.length - 2) (List.drop 1 y))),
 j<y_1->dv (List.take (y.length - 2) (List.drop 1 y))[j]=true)/\
 bh.μ (eO y) y_1<bh.μ (eO y) x/\
 (SV.aD UInt8 (List.take (y.length - 2) (List.drop 1 y)) bL=
 SV.aD UInt8 (List.take (y.length - 2) (List.drop 1 y)) bL/\
 ay (Int.ofNat (List.length (List.take (y.length - 2) (List.drop 1 y))))
 (Int.ofNat (List.length (List.take (y.length - 2) (List.drop 1 y))))/\
 ay (↑x+1) ↑y_1/\True)/\
 True/\True))
 (br (!Int.ofNat (UInt8.toNat val)==46) (false=ez y/\True)
 (ck (cg .i64 (↑x+1))
 (∃(y_1:Nat),
 (y_1<=List.length (List.take (y.length - 2) (List.drop 1 y))/\
 ∀(j:Nat) (h:j<List.length (List.take (y.length - 2) (List.drop 1 y))),
 j<y_1->dv (List.take (y.length - 2) (List.drop 1 y))[j]=true)/\
 bh.μ (eO y) y_1<bh.μ (eO y) x/\
 (SV.aD UInt8 (List.take (y.length - 2) (List.drop 1 y)) bL=
 SV.aD UInt8 (List.take (y.length - 2) (List.drop 1 y)) bL/\
 ay (Int.ofNat (List.length (List.take (y.length - 2) (List.drop 1 y))))
 (Int.ofNat (List.length (List.take (y.length - 2) (List.drop 1 y))))/\
 ay (↑x+1) ↑y_1/\True)/\
 True/\True))))))
 (true=ez y/\True))))))))))):=by kernel_rfl
theorem JS:(cd (fun(y:aR.Y (gd jf))=>bF qn (dA y)) 400 lM)=(∀(y:List UInt8),
 y.length<=100000->
 ∃(y_1:List UInt8),
 y=y_1/\
 y_1.length<=100000/\
 br (fi y_1) (true=jf y/\True)
 (∃(y_2:List UInt8),y=y_2/\y_2.length<=100000/\ez y_2=jf y/\True)):=by kernel_rfl
theorem J0:(cd (fun(y:aR.Y (gd dR))=>bF qo (dO iS 4 (qD y))) 400 iS)=(∀(y:List UInt8),
 y.length<=100000->
 br (cu 256 (Int.ofNat y.length)) (false=dR y/\True)
 (∃(y_1:List UInt8),
 y=y_1/\
 y_1.length<=100000/\
 br (jf y_1) (false=dR y/\True)
 (∃(y_2:Bs×Int),
 y=y_2.1/\
 ay 46 y_2.2/\
 y_2.1.length<=100000/\
 (∃(x:Nat),
 (x<=List.length (aS y 46)/\
 ∀(j:Nat) (h:j<List.length (aS y 46)),j<x->eI (aS y 46)[j]=true)/\
 (SV.aD Bs (aS y_2.1 y_2.2) dW=
 SV.aD Bs (aS y 46) dW/\
 ay (Int.ofNat (List.length (aS y_2.1 y_2.2))) (Int.ofNat (List.length (aS y 46)))/\
 ay 0 ↑x/\True)/\
 True/\True)/\
 ∀(x:Nat),
 (x<=List.length (aS y 46)/\
 ∀(j:Nat) (h:j<List.length (aS y 46)),j<x->eI (aS y 46)[j]=true)->
 br (cu (↑x) (Int.ofNat (List.length (aS y 46))))
 (so (aS y 46)[Int.toNat ↑x]? fun(val:Bs)=>
 ∃(y_3:List UInt8),
 val=y_3/\
 y_3.length<=100000/\
 br (!eI y_3) (false=dR y/\True)
 (ck (cg .i64 (↑x+1))
 (∃(y_4:Nat),
 (y_4<=List.length (aS y 46)/\
 ∀(j:Nat) (h:j<List.length (aS y 46)),j<y_4->eI (aS y 46)[j]=true)/\
 bh.μ (qD y) y_4<bh.μ (qD y) x/\
 (SV.aD Bs (aS y 46) dW=
 SV.aD Bs (aS y 46) dW/\
 ay (Int.ofNat (List.length (aS y 46))) (Int.ofNat (List.length (aS y 46)))/\
 ay (↑x+1) ↑y_4/\True)/\
 True/\True)))
 (true=dR y/\True)))):=by kernel_rfl
theorem G7:(cd (fun(y:aR.Y mB)=>bF cH (dA y)) 400 tY)=(∀(y:Bs×Bs),
 y.1.length<=100000/\y.2.length<=100000->
 br (cl (Int.ofNat y.2.length) (Int.ofNat y.1.length))
 (ck (Nat.ble (Int.toNat (Int.ofNat y.2.length)) y.1.length)
 ((List.take (Int.toNat (Int.ofNat y.2.length)) y.1==y.2)=
 Decidable.decide (List.take y.2.length y.1=y.2)/\
 True))
 (false=Decidable.decide (List.take y.2.length y.1=y.2)/\True)):=by kernel_rfl
theorem GP:(cd (fun(y:aR.Y mB)=>bF mL (dA y)) 400 lI)=(∀(y:Bs×Bs),
 y.1.length<=100000/\y.2.length<=100000->
 ∃(y_1:Bs×Bs),
 y.1=y_1.1/\
 y.2=y_1.2/\
 (y_1.1.length<=100000/\y_1.2.length<=100000)/\
 Decidable.decide (List.take y_1.2.length y_1.1=y_1.2)=
 Decidable.decide (List.take y.2.length y.1=y.2)/\
 True):=by kernel_rfl
theorem G6:(cd (fun(y:aR.Y sX)=>bF mL (dA y)) 400 lT)=(∀(y:List UInt8),
 y.length<=100000->
 ∃(y_1:List UInt8),
 y=y_1/\
 y_1.length<=100000/\
 br (!dR y_1) ((if dR y=true then aS y 46 else[])=[]/\True)
 (∃(y_2:Bs×Int),
 y=y_2.1/\
 ay 46 y_2.2/\
 y_2.1.length<=100000/\
 SV.aD Bs (aS y_2.1 y_2.2) dW=
 SV.aD Bs (if dR y=true then aS y 46 else[]) dW/\
 True)):=by kernel_rfl
theorem IX:(cd (fun(y:aR.Y tk)=>bF qp (dA y)) 400 lN)=(∀(y:List UInt8),
 y.length<=100000->
 ∃(y_1:Bs×Bs),
 y=y_1.1/\
 Array.toList (ByteArray.data {data:=#[42,46]})=y_1.2/\
 (y_1.1.length<=100000/\y_1.2.length<=100000)/\
 br (Decidable.decide (List.take y_1.2.length y_1.1=y_1.2))
 (ck (Nat.ble (Int.toNat 2) y.length)
 (∃(y_2:List UInt8),
 List.drop (Int.toNat 2) y=y_2/\
 y_2.length<=100000/\
 br (cu 0 (Int.ofNat (List.length (if dR y_2=true then aS y_2 46 else[]))))
 (List.drop (Int.toNat 2) y=Prod.fst (eb y)/\
 true=Prod.fst (Prod.snd (eb y))/\false=Prod.snd (Prod.snd (eb y))/\true=fA y/\True)
 (List.drop (Int.toNat 2) y=Prod.fst (eb y)/\
 true=Prod.fst (Prod.snd (eb y))/\false=Prod.snd (Prod.snd (eb y))/\false=fA y/\True)))
 (∃(y_2:Bs×Bs),
 y=y_2.1/\
 Array.toList (ByteArray.data {data:=#[33]})=y_2.2/\
 (y_2.1.length<=100000/\y_2.2.length<=100000)/\
 br (Decidable.decide (List.take y_2.2.length y_2.1=y_2.2))
 (ck (Nat.ble (Int.toNat 1) y.length)
 (∃(y_3:List UInt8),
 List.drop (Int.toNat 1) y=y_3/\
 y_3.length<=100000/\
 br (cu 0 (Int.ofNat (List.length (if dR y_3=true then aS y_3 46 else[]))))
 (List.drop (Int.toNat 1) y=Prod.fst (eb y)/\
 false=Prod.fst (Prod.snd (eb y))/\
 true=Prod.snd (Prod.snd (eb y))/\
 cu 1 (Int.ofNat (List.length (if dR y_3=true then aS y_3 46 else[])))=fA y/\True)
 (List.drop (Int.toNat 1) y=Prod.fst (eb y)/\
 false=Prod.fst (Prod.snd (eb y))/\
 true=Prod.snd (Prod.snd (eb y))/\false=fA y/\True)))
 (∃(y_3:List UInt8),
 y=y_3/\
 y_3.length<=100000/\
 br (cu 0 (Int.ofNat (List.length (if dR y_3=true then aS y_3 46 else[]))))
 (y=Prod.fst (eb y)/\
 false=Prod.fst (Prod.snd (eb y))/\
 false=Prod.snd (Prod.snd (eb y))/\true=fA y/\True)
 (y=Prod.fst (eb y)/\
 false=Prod.fst (Prod.snd (eb y))/\
 false=Prod.snd (Prod.snd (eb y))/\false=fA y/\True)))):=by kernel_rfl
theorem G4:(cd (fun(y:aR.Y sW)=>bF qq (dO iL 4 (pU y))) 400 iL)=(∀(y:List Bs),
 (y.length<=100000/\ ∀(s:Bs),s∈y->s.length<=100000)->
 br (cu 256 (Int.ofNat y.length)) (ay 3 (jN y)/\True)
 ((∃(x:Nat),
 (x<=y.length/\ ∀(j:Nat) (h:j<y.length),j<x->fA y[j]=true)/\
 (SV.aD Bs y dW=SV.aD Bs y dW/\
 ay (Int.ofNat y.length) (Int.ofNat y.length)/\ay 0 ↑x/\True)/\
 True/\True)/\
 ∀(x:Nat),
 (x<=y.length/\ ∀(j:Nat) (h:j<y.length),j<x->fA y[j]=true)->
 br (cu (↑x) (Int.ofNat y.length))
 (so y[Int.toNat ↑x]? fun(val:Bs)=>
 ∃(y_1:List UInt8),
 val=y_1/\
 y_1.length<=100000/\
 br (!fA y_1) (ay 1 (jN y)/\True)
 (ck (cg .i64 (↑x+1))
 (∃(y_2:Nat),
 (y_2<=y.length/\ ∀(j:Nat) (h:j<y.length),j<y_2->fA y[j]=true)/\
 bh.μ (pU y) y_2<bh.μ (pU y) x/\
 (SV.aD Bs y dW=SV.aD Bs y dW/\
 ay (Int.ofNat y.length) (Int.ofNat y.length)/\ay (↑x+1) ↑y_2/\True)/\
 True/\True)))
 (ay 0 (jN y)/\True))):=by kernel_rfl
end
section
variable [Inhabited aE]
section
variable {α:Type} {l:List α} {p:α->Bool} {x:Nat}
theorem pH (h:∀(j:Nat) (h:j<l.length),j<x->p l[j]=true) (hx:¬(x:Int)<Int.ofNat l.length):l.all p=true:=by
 rw[Av];intro a ha;obtain⟨j,hj,rfl⟩:=B6 ha;exact h j hj (by simp only[Ak]at hx;omega)
theorem nN (h:x<l.length) (hp:p l[x]=false):l.all p=false:=by
 rw[Ar];intro ha;rw[Av]at ha;rw[ha _ (AX h)]at hp
 cases hp
theorem pI (h:∀(j:Nat) (h:j<l.length),j<x->p l[j]=true) (hx:x<l.length) (hp:p l[x]=true):∀(j:Nat) (h:j<l.length),j<x+1->p l[j]=true:=by
 intro j hj hjx;by_cases e:j=x
 . subst e;exact hp
 . exact h j hj (by omega)
end
theorem dB {x n:Nat} (h:cu (x:Int) (Int.ofNat n)=true):x<n:=by
 rw[de,Ao,Ak]at h;omega
theorem iA {x n:Nat} (h:cu (x:Int) (Int.ofNat n)=false):¬(x:Int)<Int.ofNat n:=by
 rw[de,As]at h;exact h
theorem eA {α:Type} {l:List α} {x:Nat} (h:x<l.length):l[Int.toNat (x:Int)]? =some l[x]:=by simp[h]
theorem HB:CO l5 tl:=cZ (cfg:=fun y=>bF cH (dA y)) cB (fun _=>rfl) (fun _=>gR) (n:=400) (by
 rw[IY];rintro⟨b,e⟩ -;simp only[ak,gl,eg,DA,Ao,As,Dr,DQ];refine⟨fun h=>⟨fun h2=>by simp[h,h2],fun h2=>by simp[h,h2]⟩,fun h=>⟨fun h1=>⟨fun h2=>?_,fun h2=>⟨fun h3=>⟨fun h4=>?_,fun h4=>⟨fun h5=>?_,fun h5=>?_⟩⟩,fun h3=>⟨fun h5=>?_,fun h5=>?_⟩⟩⟩,fun h1=>⟨fun h3=>⟨fun h4=>?_,fun h4=>⟨fun h5=>?_,fun h5=>?_⟩⟩,fun h3=>⟨fun h5=>?_,fun h5=>?_⟩⟩⟩⟩
 all_goals (simp_all<;>omega))
theorem pK:∀g C,kD g=some C->CO g C:=dw HB GY
theorem pR (b:UInt8) (e:Bool):eg (nB b) e=(oB b&& !(nB b==45&&e)):=by
 unfold eg oB;by_cases h:nB b=45
 . simp[h]
 . have:(nB b==45)=false:=by simpa using h
   simp[h,this]
theorem js (b:UInt8):b=45↔nB b=45:=⟨fun h=>by rw[h];rfl,fun h=>tA (h.trans rfl)⟩
theorem wo (s:Bs) (h0:s≠[]) (h63:s.length<=63):eI s=true↔∀(j:Nat) (h:j<s.length),eg (nB s[j]) (j==0||j==s.length - 1)=true:=by
 have hp:0<s.length:=BR.2 h0;have hhd:s.head? =some s[0]:=by rw[Df];simp[hp]
 have htl:s.getLast? =some (s[s.length - 1]'(by omega)):=by rw[Ef];simp[hp]
 unfold eI;rw[hhd,htl];simp only[Ab,bne_iff_ne,BS,h0,AZ,Ao,h63,true_and,Av,Az];constructor
 . rintro⟨⟨h1,h2⟩,h3⟩ j hj;rw[pR,h1 _ (AX hj)];by_cases e0:j=0
   . subst e0;rw[js]at h2;simp[h2]
   . by_cases e1:j=s.length - 1
     . subst e1;rw[js]at h3;simp[h3]
     . simp[e0,e1]
 . intro h;refine⟨⟨fun b hb=>?_,?_⟩,?_⟩
   . obtain⟨j,hj,rfl⟩:=B6 hb;have:=h j hj;rw[pR,Ab]at this;exact this.1
   . have:=h 0 hp;rw[pR,Ab]at this;rw[js];have h2:=this.2;simpa using h2
   . have:=h (s.length - 1) (by omega);rw[pR,Ab]at this;rw[js];have h2:=this.2;simpa using h2
theorem vB {s:Bs} (h0:s≠[]) (h63:s.length<=63) {x:Nat} (h:x<s.length) (hx:eg (nB s[x]) (x==0||x==s.length - 1)=false):eI s=false:=by
 rw[Ar];intro hl;rw[(wo s h0 h63).1 hl x h]at hx
 cases hx
theorem Gd {s:Bs} (h:63<s.length):eI s=false:=by
 unfold eI;have:decide (s.length<=63)=false:=by simp;omega
 simp[this]
theorem H4:CO iO (gd eI):=cZ (cfg:=fun y=>bF kD (dO iO 4 (kx y))) cB (fun _=>rfl) (fun _=>pK) (n:=400) (by
 rw[IW];intro s hpre;have hpre:s.length<=100000:=hpre;refine ak.2 ⟨fun h=>?_,fun h=>ak.2 ⟨fun h2=>?_,fun h2=>⟨⟨0,⟨by simp,fun j h hj=>by omega⟩,⟨rfl,rfl,rfl,trivial⟩,trivial,trivial⟩,?_⟩⟩⟩
 . have:s=[]:=by simpa using h
   subst this;exact⟨rfl,trivial⟩
 . rw[de,Ao,Ak]at h2;exact⟨(Gd (by omega)).symm,trivial⟩
 have h0:s≠[]:=by simpa using h
 have h63:s.length<=63:=by
   rw[de,As,Ak]at h2;omega
 rintro x ⟨hx,hall⟩;refine ak.2 ⟨fun hlt=>aN.2 ⟨_,eA (dB hlt),?_⟩,fun hge=>⟨((wo s h0 h63).2 fun j hj=>hall j hj (by have:=iA hge;simp only[Ak]at this;omega)).symm,trivial⟩⟩;have hlt':=dB hlt;have next:eg (nB s[x]) (x==0||x==s.length - 1)=true->∃(y_2:Nat),(y_2<=s.length/\ ∀(j:Nat) (h:j<s.length),j<y_2->eg (nB s[j]) (j==0||j==s.length - 1)=true)/\(kx s).μ y_2<(kx s).μ x/\(s=s/\ay (Int.ofNat s.length) (Int.ofNat s.length)/\ay (↑x+1) ↑y_2/\True)/\True/\True:=by
   intro he;refine⟨x+1,⟨by omega,fun j hj hjx=>?_⟩,?_,⟨rfl,rfl,by simp[ay],trivial⟩,trivial,trivial⟩
   . by_cases e:j=x
     . subst e;exact he
     . exact hall j hj (by omega)
   . show s.length - (x+1)<s.length - x
     omega
 refine ak.2 ⟨fun hx0=>⟨(s[x],true),rfl,rfl,trivial,ak.2 ⟨fun hs=>?_,fun hs=>aB.2 ⟨eG x (by omega),next ?_⟩⟩⟩,fun hx0=>aB.2 ⟨by rw[kz,Ak];omega,(s[x],(x:Int)==Int.ofNat s.length - 1),rfl,rfl,trivial,ak.2 ⟨fun hs=>?_,fun hs=>aB.2 ⟨eG x (by omega),next ?_⟩⟩⟩⟩
 . have:x=0:=by simpa using hx0
   subst this;exact⟨(vB h0 h63 hlt' (by simpa using hs)).symm,trivial⟩
 . have:x=0:=by simpa using hx0
   subst this;simpa using hs
 . have hx1:¬x=0:=by simpa using hx0
   have e:((x:Int)==Int.ofNat s.length - 1)=(x==0||x==s.length - 1):=by
     rw[A3];simp[hx1];omega
   rw[e]at hs;exact⟨(vB h0 h63 hlt' (by simpa using hs)).symm,trivial⟩
 . have hx1:¬x=0:=by simpa using hx0
   have e:((x:Int)==Int.ofNat s.length - 1)=(x==0||x==s.length - 1):=by
     rw[A3];simp[hx1];omega
   rw[e]at hs;simpa using hs)
theorem CK {s:Bs} {x:Nat} (h:x<s.length) (hx:oB s[x]=false):eI s=false:=by
 unfold eI;rw[nN h hx];simp
theorem E9 {s:Bs} {x:Nat} (h:x<(aS s 46).length) (hp:gp (aS s 46)[x]=false):fi s=false:=by
 unfold fi;rw[nN h hp];simp
theorem xu {s:Bs} {x:Nat} (h:x<(aS s 46).length):((aS s 46)[x]).length<=s.length:=CZ s 46 _ (AX h)
theorem Ij:CO iR (gd fi):=cZ (cfg:=fun y=>bF kD (dO iR 5 (kA y))) cB (fun _=>rfl) (fun _=>pK) (n:=400) (by
 rw[JX];intro s hpre;have hpre:s.length<=100000:=hpre;have hsl:=vJ s 46;refine⟨(s,46),rfl,rfl,hpre,ak.2 ⟨fun h=>?_,fun h=>⟨⟨0,⟨by simp,fun j h hj=>by omega⟩,⟨rfl,rfl,rfl,trivial⟩,trivial,trivial⟩,?_⟩⟩⟩
 . refine⟨?_,trivial⟩;unfold fi;have:¬(aS s 46).length=4:=by
     simp only[AW,DQ,BS,Ak]at h;omega
   simp[this]
 have h4:(aS s 46).length=4:=by
   simp only[Bool.not_eq_false',Dr,Ak]at h;omega
 rintro x ⟨hx,hall⟩;refine ak.2 ⟨fun hlt=>aN.2 ⟨_,eA (dB hlt),?_⟩,fun hge=>⟨?_,trivial⟩⟩
 . have hx':=dB hlt;have hpl:=xu hx';have next:gp (aS s 46)[x]=true->ck (cg Go.IntKind.i64 (↑x+1)) (∃(y_4:Nat),(y_4<=(aS s 46).length/\ ∀(j:Nat) (h:j<(aS s 46).length),j<y_4->gp (aS s 46)[j]=true)/\(kA s).μ y_4<(kA s).μ x/\(SV.aD Bs (aS s 46) dW=SV.aD Bs (aS s 46) dW/\ay (Int.ofNat (aS s 46).length) (Int.ofNat (aS s 46).length)/\ay (↑x+1) ↑y_4/\True)/\True/\True):=by
     intro hp;refine aB.2 ⟨eG x (by omega),x+1,⟨hx',pI hall hx' hp⟩,?_,⟨rfl,rfl,by simp[ay],trivial⟩,trivial,trivial⟩;show(aS s 46).length - (x+1)<(aS s 46).length - x
     omega
   generalize hpe:(aS s 46)[x]=p at*
   have fail:gp p=false->false=fi s:=fun h=>(E9 hx' (by rw[hpe];exact h)).symm
   refine⟨p,rfl,by omega,ak.2 ⟨fun h1=>⟨fail ?_,trivial⟩,fun h1=>⟨p,rfl,by omega,ak.2 ⟨fun h2=>⟨fail ?_,trivial⟩,fun h2=>ak.2 ⟨fun h3=>⟨fail ?_,trivial⟩,fun h3=>ak.2 ⟨fun h5=>?_,fun h5=>next ?_⟩⟩⟩⟩⟩⟩
   . have:p=[]:=by simpa using h1
     subst this;rfl
   . have:=dB h2;unfold gp;have h2':¬dz p=p.length:=by omega
     simp[h2']
   . rw[de,Ao]at h3;unfold gp;have:¬(bT p).1<=255:=by omega
     simp[this]
   all_goals (have hp0:p≠[]:=by simpa using h1)
   all_goals (have hd:dz p=p.length:=by have:=iA h2;have:=sE p;simp only[Ak]at*;omega)
   all_goals (have h255:(bT p).1<=255:=by rw[de,As]at h3;omega)
   . rw [de,Ao,Ak]at h5;have hpl1:1<p.length:=by omega
     refine aN.2 ⟨p[0],by simp[show 0<p.length by omega],ak.2 ⟨fun h6=>⟨fail ?_,trivial⟩,fun h6=>next ?_⟩⟩
     . have:p.head? =some 48:=by
        rw[Df,Af (by omega)];congr 1
        exact tA (by simpa [nB]using h6)
       unfold gp;simp[this,hpl1]
     . have:¬p.head? =some 48:=by
        rw[Df,Af (by omega)];intro e;simp only[Az]at e;rw[e]at h6;simp at h6
       unfold gp;simp[this,hp0,hd,h255]
   . rw[de,As,Ak]at h5;have hpl1:¬1<p.length:=by omega
     unfold gp;simp[hpl1,hp0,hd,h255]
 . unfold fi;rw[pH hall (iA hge)];simp[h4])
theorem IA {b:UInt8} {P Q:Prop} (hp:dv b=true->P) (hq:dv b=false->Q):
  br (cl 48 (Int.ofNat (UInt8.toNat b))) (br (cl (Int.ofNat (UInt8.toNat b)) 57) P (br (cl 97 (Int.ofNat (UInt8.toNat b))) (br (cl (Int.ofNat (UInt8.toNat b)) 102) P (br (Int.ofNat (UInt8.toNat b)==58) P (br (!Int.ofNat (UInt8.toNat b)==46) Q P))) (br (Int.ofNat (UInt8.toNat b)==58) P (br (!Int.ofNat (UInt8.toNat b)==46) Q P))))
   (br (cl 97 (Int.ofNat (UInt8.toNat b))) (br (cl (Int.ofNat (UInt8.toNat b)) 102) P (br (Int.ofNat (UInt8.toNat b)==58) P (br (!Int.ofNat (UInt8.toNat b)==46) Q P))) (br (Int.ofNat (UInt8.toNat b)==58) P (br (!Int.ofNat (UInt8.toNat b)==46) Q P))):=by
 rw[yg];have e:dv b=((cl 48 (nB b)&&cl (nB b) 57)||(cl 97 (nB b)&&cl (nB b) 102)||(nB b==58)||(nB b==46)):=by
  simp only[gl];rfl
 rw[e]at hp hq;generalize cl 48 (nB b)=a1 at*
 generalize cl (nB b) 57=a2 at*
 generalize cl 97 (nB b)=a3 at*
 generalize cl (nB b) 102=a4 at*
 generalize (nB b==58)=a5 at*
 generalize (nB b==46)=a6 at*
 cases a1<;>cases a2<;>cases a3<;>cases a4<;>cases a5<;>cases a6<;>simp_all[br]
theorem pJ {s:Bs} (h4:4<=s.length):s.head? =some (s[0]'(by omega))/\s.getLast? =some (s[s.length - 1]'(by omega)):=by
 rw[Df,Ef];exact⟨by simp[show 0<s.length by omega],by simp[show 0<s.length by omega]⟩
theorem Cl {s:Bs} (h:s.length<4):ez s=false:=by
 unfold ez;have:decide (4<=s.length)=false:=by simp;omega
 simp[this]
theorem FM {s:Bs} (h:47<s.length):ez s=false:=by
 unfold ez;have:decide (s.length<=47)=false:=by simp;omega
 simp[this]
theorem eM {b:UInt8} {n:UInt8}:(Int.ofNat b.toNat==nB n)=true↔b=n:=by
 constructor
 . intro h;exact tA (by simpa [nB]using h)
 . intro h;subst h;simp[nB]
theorem Ck {s:Bs} (h4:4<=s.length) (h:(!Int.ofNat (UInt8.toNat (s[0]'(by omega)))==91)=true):ez s=false:=by
 have:s[0]'(by omega)≠91:=by
  intro e;rw[AW]at h;rw[show(91:Int)=nB 91 from rfl,eM.2 e]at h
  cases h
 unfold ez;rw[(pJ h4).1];simp[this]
theorem ER {s:Bs} (h4:4<=s.length) (h:(!Int.ofNat (UInt8.toNat (s[s.length - 1]'(by omega)))==93)=true):ez s=false:=by
 have:s[s.length - 1]'(by omega)≠93:=by
  intro e;rw[AW]at h;rw[show(93:Int)=nB 93 from rfl,eM.2 e]at h
  cases h
 unfold ez;rw[(pJ h4).2];simp[this]
theorem FN {s:Bs} (h4:4<=s.length) (h47:s.length<=47) (h1:(!Int.ofNat (UInt8.toNat (s[0]'(by omega)))==91)=false) (h2:(!Int.ofNat (UInt8.toNat (s[s.length - 1]'(by omega)))==93)=false):ez s=((s.drop 1).take (s.length - 2)).all dv:=by
 have e1:s[0]'(by omega)=91:=eM.1 (by simpa [nB]using h1);have e2:s[s.length - 1]'(by omega)=93:=eM.1 (by simpa [nB]using h2);unfold ez;rw[(pJ h4).1,(pJ h4).2,e1,e2];simp[h4,h47]
theorem HV:CO iK (gd ez):=cZ (cfg:=fun y=>bF kD (dO iK 4 (eO y))) cB (fun _=>rfl) (fun _=>pK) (n:=400) (by
 rw[IV];intro s hpre;have hpre:s.length<=100000:=hpre;refine ak.2 ⟨fun h=>⟨(Cl (by rw[de,Ao,Ak]at h;omega)).symm,trivial⟩,fun h=>ak.2 ⟨fun h2=>⟨(FM (by rw[de,Ao,Ak]at h2;omega)).symm,trivial⟩,fun h2=>?_⟩⟩;have h4:4<=s.length:=by rw[de,As,Ak]at h;omega
 have h47:s.length<=47:=by rw[de,As,Ak]at h2;omega
 have hi:Int.toNat (Int.ofNat s.length - 1)=s.length - 1:=by rw[Ak];omega
 have hr:cg Go.IntKind.i64 (Int.ofNat s.length - 1)=true:=by rw[kz,Ak];omega
 have hn:nn (Int.ofNat s.length - 1)=true:=by rw[qS,Ao,Ak];omega
 rw[hi];refine aN.2 ⟨s[0]'(by omega),by simp[show 0<s.length by omega],ak.2 ⟨fun h5=>⟨(Ck h4 h5).symm,trivial⟩,fun h5=>aB.2 ⟨hr,aB.2 ⟨hn,aN.2 ⟨s[s.length - 1]'(by omega),by simp[show 0<s.length by omega],ak.2 ⟨fun h6=>⟨(ER h4 h6).symm,trivial⟩,fun h6=>aB.2 ⟨hr,aB.2 ⟨hn,aB.2 ⟨by simp;omega,⟨0,⟨by simp,fun j h hj=>by omega⟩,⟨?_,?_,rfl,trivial⟩,trivial,trivial⟩,?_⟩⟩⟩⟩⟩⟩⟩⟩⟩
 . rw[show s.length - 1 - Int.toNat 1=s.length - 2 by simp;omega];rfl
 . rw[show s.length - 1 - Int.toNat 1=s.length - 2 by simp;omega];rfl
 have hb:=FN h4 h47 h5 h6;rintro x ⟨hx,hall⟩;refine ak.2 ⟨fun hlt=>aN.2 ⟨_,eA (dB hlt),IA (fun hh=>aB.2 ⟨eG x (by have:=dB hlt;simp at this;omega),x+1,⟨dB hlt,pI hall (dB hlt) hh⟩,?_,⟨rfl,rfl,by simp[ay],trivial⟩,trivial,trivial⟩) (fun hh=>⟨?_,trivial⟩)⟩,fun hge=>⟨?_,trivial⟩⟩
 . have:=dB hlt;show((s.drop 1).take (s.length - 2)).length - (x+1)<((s.drop 1).take (s.length - 2)).length - x
   omega
 . rw[hb,nN (dB hlt) hh]
 . rw[hb,pH hall (iA hge)])
theorem xb:∀g C,qn g=some C->CO g C:=dw H4 (dw Ij (dw HV pK))
theorem IE:CO lM (gd jf):=cZ (cfg:=fun y=>bF qn (dA y)) cB (fun _=>rfl) (fun _=>xb) (n:=400) (by
 rw[JS];intro s hpre;refine⟨s,rfl,hpre,ak.2 ⟨fun h=>⟨by unfold jf;rw[h];rfl,trivial⟩,fun h=>⟨s,rfl,hpre,by unfold jf;rw[h];rfl,trivial⟩⟩⟩)
theorem Hj {s:Bs} (h:256<s.length):dR s=false:=by
 unfold dR;have:decide (s.length<=256)=false:=by simp;omega
 simp[this]
theorem Gp {s:Bs} (h:fi s=true):dR s=false:=by
 unfold dR;simp[h]
theorem EI {s:Bs} (h:ez s=true):dR s=false:=by
 unfold ez at h;simp only[Ab,Dr]at h;have h1:=h.1.1.2
 cases s with
 |nil=>simp at h1
 | cons b s=>
  simp only[List.head?_cons,Az]at h1;subst h1;have:(aS (91::s) 46).all eI=false:=by
   have hs:aS (91::s) 46=(match aS s 46 with|h::t=>(91::h)::t|[]=>[[91]]):=by
    rw[aS];rw[Ae (by decide)]
    try (cases aS s 46<;>rfl)
   rw[hs];have hl:∀h:Bs,eI (91::h)=false:=fun h=>CK (s:=91::h) (x:=0) (by simp) (by simp[oB,nB])
   cases aS s 46 with
   |nil=>simp[hl]
   |cons h t=>simp[hl]
  unfold dR;rw[this];simp
theorem Gn {s:Bs} {x:Nat} (h:x<(aS s 46).length) (hp:eI (aS s 46)[x]=false):dR s=false:=by
 unfold dR;rw[nN h hp];simp
theorem Gl {s:Bs} (h1:s.length<=256) (h2:fi s=false):dR s=(aS s 46).all eI:=by
 unfold dR;simp[h1,h2]
theorem xc:∀g C,qo g=some C->CO g C:=dw IE xb
theorem Im:CO iS (gd dR):=cZ (cfg:=fun y=>bF qo (dO iS 4 (qD y))) cB (fun _=>rfl) (fun _=>xc) (n:=400) (by
 rw[J0];intro s hpre;have hpre:s.length<=100000:=hpre;have hsl:=vJ s 46;refine ak.2 ⟨fun h=>⟨(Hj (by rw[de,Ao,Ak]at h;omega)).symm,trivial⟩,fun h=>⟨s,rfl,hpre,ak.2 ⟨fun h2=>⟨?_,trivial⟩,fun h2=>⟨(s,46),rfl,rfl,hpre,⟨0,⟨by simp,fun j h hj=>by omega⟩,⟨rfl,rfl,rfl,trivial⟩,trivial,trivial⟩,?_⟩⟩⟩⟩
 . unfold jf at h2;rw[BM]at h2;rcases h2 with h2|h2
   . exact(Gp h2).symm
   . exact(EI h2).symm
 have h256:s.length<=256:=by rw[de,As,Ak]at h;omega
 have h3:fi s=false:=by unfold jf at h2;rw[Bool.or_eq_false_iff]at h2;exact h2.1
 rintro x ⟨hx,hall⟩;refine ak.2 ⟨fun hlt=>aN.2 ⟨_,eA (dB hlt),_,rfl,?_,ak.2 ⟨fun hh=>⟨(Gn (dB hlt) (by simpa using hh)).symm,trivial⟩,fun hh=>aB.2 ⟨eG x (by have:=dB hlt;omega),x+1,⟨dB hlt,pI hall (dB hlt) (by simpa using hh)⟩,?_,⟨rfl,rfl,by simp[ay],trivial⟩,trivial,trivial⟩⟩⟩,fun hge=>⟨?_,trivial⟩⟩
 . have:=xu (dB hlt);omega
 . have:=dB hlt;show(aS s 46).length - (x+1)<(aS s 46).length - x
   omega
 . rw[Gl h256 h3,pH hall (iA hge)])
theorem Hr:CO tY mB:=cZ (cfg:=fun y=>bF cH (dA y)) cB (fun _=>rfl) (fun _=>gR) (n:=400) (by
 rw[G7];rintro⟨s,t⟩ _;refine ak.2 ⟨fun h=>aB.2 ⟨?_,?_,trivial⟩,fun h=>⟨?_,trivial⟩⟩
 . rw[gl,Ao]at h;simp at h⊢;exact h
 . rw[A3];simp
 . rw[gl,As]at h;symm;rw[As];intro e;have:=AN List.length e;simp at this h;omega)
theorem sy:∀g C,mL g=some C->CO g C:=dw Im (dw Hr xc)
theorem FX:CO lI mB:=cZ (cfg:=fun y=>bF mL (dA y)) cB (fun _=>rfl) (fun _=>sy) (n:=400) (by
 rw[GP];rintro⟨s,t⟩ h;exact⟨(s,t),rfl,rfl,h,rfl,trivial⟩)
theorem Hq:CO lT sX:=cZ (cfg:=fun y=>bF mL (dA y)) cB (fun _=>rfl) (fun _=>sy) (n:=400) (by
 rw[G6];intro s hpre;refine⟨s,rfl,hpre,ak.2 ⟨fun h=>⟨?_,trivial⟩,fun h=>⟨(s,46),rfl,rfl,hpre,?_,trivial⟩⟩⟩
 . rw[Ae (by simpa using h)]
 . rw[Ai (by simpa using h)])
theorem xd:∀g C,qp g=some C->CO g C:=dw Hq (dw FX sy)
theorem pa (s:Bs):cu 0 (Int.ofNat (if dR s=true then aS s 46 else[]).length)=dR s:=by
 have:=BR.2 (FQ s 46);rw[de,Ak]
 cases h:dR s
 . simp
 . simp;omega
theorem H7:CO lN tk:=cZ (cfg:=fun y=>bF qp (dA y)) cB (fun _=>rfl) (fun _=>xd) (n:=400) (by
 rw[IX];intro s hpre;have hpre:s.length<=100000:=hpre;refine⟨(s,[42,46]),rfl,rfl,⟨hpre,by simp⟩,ak.2 ⟨fun h=>?_,fun h=>⟨(s,[33]),rfl,rfl,⟨hpre,by simp⟩,ak.2 ⟨fun h2=>?_,fun h2=>?_⟩⟩⟩⟩
 . have h':s.take 2=[42,46]:=by simpa using h
   have hl:2<=s.length:=by have:=AN List.length h';simp at this;omega
   have hr:eb s=(s.drop 2,true,false):=by unfold eb;rw[Ai h']
   have hi:fA s=dR (s.drop 2):=by unfold fA;rw[hr];simp
   refine aB.2 ⟨by simp;omega,s.drop 2,rfl,by simp;omega,ak.2 ⟨fun h3=>?_,fun h3=>?_⟩⟩
   all_goals (rw[pa]at h3;rw[hr,hi,h3];exact⟨rfl,rfl,rfl,rfl,trivial⟩)
 . have h0:¬s.take 2=[42,46]:=by simpa using h
   have h':s.take 1=[33]:=by simpa using h2
   have hl:1<=s.length:=by have:=AN List.length h';simp at this;omega
   have hr:eb s=(s.drop 1,false,true):=by unfold eb;rw[Ae h0,Ai h']
   have hi:fA s=(dR (s.drop 1)&&decide (1<(aS (s.drop 1) 46).length)):=by unfold fA;rw[hr];simp
   refine aB.2 ⟨by simp;omega,s.drop 1,rfl,by simp;omega,ak.2 ⟨fun h3=>?_,fun h3=>?_⟩⟩
   . rw[pa]at h3;rw[hr,hi,h3,Ai rfl];refine⟨rfl,rfl,rfl,?_,trivial⟩;rw[de,A3];simp;omega
   . rw[pa]at h3;rw[hr,hi,h3];exact⟨rfl,rfl,rfl,rfl,trivial⟩
 . have h0:¬s.take 2=[42,46]:=by simpa using h
   have h1:¬s.take 1=[33]:=by simpa using h2
   have hr:eb s=(s,false,false):=by unfold eb;rw[Ae h0,Ae h1]
   have hi:fA s=dR s:=by unfold fA;rw[hr];simp
   refine⟨s,rfl,hpre,ak.2 ⟨fun h3=>?_,fun h3=>?_⟩⟩
   all_goals (rw[pa]at h3;rw[hr,hi,h3];exact⟨rfl,rfl,rfl,rfl,trivial⟩))
theorem xe:∀g C,qq g=some C->CO g C:=dw H7 xd
theorem Ho:CO iL sW:=cZ (cfg:=fun y=>bF qq (dO iL 4 (pU y))) cB (fun _=>rfl) (fun _=>xe) (n:=400) (by
 rw[G4];rintro l ⟨hpre,hs⟩;refine ak.2 ⟨fun h=>⟨?_,trivial⟩,fun h=>⟨⟨0,⟨by simp,fun j h hj=>by omega⟩,⟨rfl,rfl,rfl,trivial⟩,trivial,trivial⟩,?_⟩⟩
 . rw[de,Ao,Ak]at h;unfold jN;rw[Ai (by omega)]
 have h256:¬256<l.length:=by rw[de,As,Ak]at h;omega
 rintro x ⟨hx,hall⟩;refine ak.2 ⟨fun hlt=>aN.2 ⟨_,eA (dB hlt),_,rfl,hs _ (AX _),ak.2 ⟨fun hh=>⟨?_,trivial⟩,fun hh=>aB.2 ⟨eG x (by omega),x+1,⟨dB hlt,pI hall (dB hlt) (by simpa using hh)⟩,?_,⟨rfl,rfl,by simp[ay],trivial⟩,trivial,trivial⟩⟩⟩,fun hge=>⟨?_,trivial⟩⟩
 . unfold jN;rw[Ae h256,nN (dB hlt) (by simpa using hh)];simp[ay]
 . have:=dB hlt;show l.length - (x+1)<l.length - x
   omega
 . unfold jN;rw[Ae h256,pH hall (iA hge)];simp[ay])
theorem GA:∀g C,yJ g=some C->CO g C:=dw Ho xe
end
end Go.Proofs
namespace Go.Proofs
open Go Go.Am Go.RowKit Go.Sy Go.Lib
structure bm where
 name:Bs
 domain:Bs
 path:Bs
deriving DecidableEq,Inhabited
structure cy where
 value:Bs
 aY:Bool
 bz:Bool
 aZ:Bool
 persistent:Bool
 bu:Int
 aq:Int
 access:Int
deriving DecidableEq,Inhabited
structure ad where
 key:bm
 ab:cy
deriving DecidableEq,Inhabited
structure bE where
 dq:Int
 domain:Int
 total:Int
 rules:List Bs
def bm.enc (x:bm):List SV:=[.str x.name, .str x.domain, .str x.path]
def cy.enc (x:cy):List SV:=[.str x.value, .bool x.aY, .bool x.bz, .bool x.aZ, .bool x.persistent, .int .i64 x.bu, .int .i64 x.aq, .int .i64 x.access]
def ad.enc (x:ad):List SV:=[.str x.key.name, .str x.key.domain, .str x.key.path, .str x.ab.value, .bool x.ab.aY, .bool x.ab.bz, .bool x.ab.aZ, .bool x.ab.persistent, .int .i64 x.ab.bu, .int .i64 x.ab.aq, .int .i64 x.ab.access]
def bE.enc (x:bE):List SV:=[.int .i64 x.dq, .int .i64 x.domain, .int .i64 x.total, .aD Bs x.rules dW]
abbrev lt (a b:Bs):Bool:=Op.bytesLess a b
theorem lt_irrefl:∀a,lt a a=false
 |[]=>rfl
 |a::l=>by simp[lt,Op.bytesLess];exact lt_irrefl l
theorem lt_trans:∀a b c,lt a b=true->lt b c=true->lt a c=true:=by
 intro a;induction a with
 |nil=>intro b c h1 h2;cases c with
  |nil=>cases b<;>simp[lt,Op.bytesLess]at h1 h2
  |cons=>rfl
 | cons x a ih=>
  intro b c h1 h2
  cases b with
  |nil=>simp[lt,Op.bytesLess]at h1
  | cons y b=>cases c with
   |nil=>simp[lt,Op.bytesLess]at h2
   |cons z c=>
    simp only[lt,Op.bytesLess,BM,Ao,Ab,Dr]at*;rcases h1 with h1|⟨rfl,h1⟩<;>rcases h2 with h2|⟨rfl,h2⟩
    . exact .inl (UInt8.lt_trans h1 h2)
    . exact .inl h1
    . exact .inl h2
    . exact .inr ⟨rfl,ih b c h1 h2⟩
theorem tz:∀a b,lt a b=true\/a=b\/lt b a=true:=by
 intro a;induction a with
 |nil=>intro b;cases b<;>simp[lt,Op.bytesLess]
 | cons x a ih=>
  intro b
  cases b with
  |nil=>simp[lt,Op.bytesLess]
  |cons y b=>
   simp only[lt,Op.bytesLess,BM,Ao,Ab,Dr,Bb];rcases Nat.lt_trichotomy x.toNat y.toNat with h|h|h
   . exact .inl (.inl (Eu.2 h))
   . have h:x=y:=D8.1 h;subst h;rcases ih b with h|h|h
     . exact .inl (.inr ⟨rfl,h⟩)
     . exact .inr (.inl ⟨rfl,h⟩)
     . exact .inr (.inr (.inr ⟨rfl,h⟩))
   . exact .inr (.inr (.inl (Eu.2 h)))
def cG (a b:Bs):Int:=if lt a b then -1 else if a=b then 0 else 1
theorem zx:∀(a b:Bs),compareBytes a b=cG a b:=by
 intro a;induction a with
 |nil=>intro b;cases b<;>simp[compareBytes,cG,lt,Op.bytesLess]
 | cons x a ih=>
  intro b
  cases b with
  |nil=>simp[compareBytes,cG,lt,Op.bytesLess]
  |cons y b=>
   simp only[compareBytes,ih b,cG,lt,Op.bytesLess,BM,Ao,Ab,Dr,Bb];by_cases h1:x<y
   . simp[h1]
   . by_cases h2:y<x
     . have:x≠y:=by rintro rfl;exact h1 h2
       simp[h1,h2,this]
     . have:x=y:=D8.1 (by have:=UInt8.not_lt.1 h1;have:=UInt8.not_lt.1 h2;simp[UInt8.le_iff_toNat_le]at*;omega);subst this;simp
theorem Fh (a b:Bs):Extern.BytealgCompare.cmp ⟨a.toArray⟩ ⟨b.toArray⟩=cG a b:=by
 rw[cmp_eq,zx]
theorem pA (a b:Bs):cG a b=0↔a=b:=by
 unfold cG;by_cases h:a=b
 . subst h;simp[lt_irrefl]
 . by_cases h1:lt a b=true<;>simp[h,h1]
theorem sq (a b:Bs):cG a b<0↔lt a b=true:=by
 unfold cG;by_cases h1:lt a b=true
 . simp[h1]
 . by_cases h:a=b<;>simp[h,h1]<;>simp_all[lt_irrefl]
def bK (a b:Int):Int:=if a<b then -1 else if b<a then 1 else 0
theorem r9 (a b:Int):bK a b=0↔a=b:=by
 unfold bK;by_cases h:a<b
 . rw[Ai h];omega
 . rw[Ae h];by_cases h2:b<a
   . rw[Ai h2];omega
   . rw[Ae h2];omega
theorem sm (a b:Int):bK a b<0↔a<b:=by
 unfold bK;by_cases h:a<b
 . rw[Ai h];omega
 . rw[Ae h];by_cases h2:b<a
   . rw[Ai h2];omega
   . rw[Ae h2];omega
def jQ (a b:bm):Int:=let n:=cG a.name b.name;if n≠0 then n else let d:=cG a.domain b.domain;if d≠0 then d else cG a.path b.path
def eH (a b:bm):Bool:=decide (jQ a b<0)
theorem rL (a b:bm):eH a b=if a.name≠b.name then lt a.name b.name else if a.domain≠b.domain then lt a.domain b.domain else lt a.path b.path:=by
 rw[A3];unfold eH jQ;by_cases h1:a.name=b.name
 . have e1:=(pA a.name b.name).2 h1;by_cases h2:a.domain=b.domain
   . have e2:=(pA a.domain b.domain).2 h2;have:=sq a.path b.path;simp_all
   . have e2:=fun h=>h2 ((pA a.domain b.domain).1 h)
     have:=sq a.domain b.domain;simp_all
 . have e1:=fun h=>h1 ((pA a.name b.name).1 h)
   have:=sq a.name b.name;simp_all
theorem nD (a:bm):eH a a=false:=by simp[rL,lt_irrefl]
theorem zV (a b c:bm) (h1:eH a b=true) (h2:eH b c=true):eH a c=true:=by
 rw[rL]at*;by_cases n1:a.name=b.name
 . by_cases n2:b.name=c.name
   . have n3:a.name=c.name:=n1.trans n2;simp only[n1,n2,n3,BS,BN,Ax]at h1 h2⊢;by_cases d1:a.domain=b.domain
     . by_cases d2:b.domain=c.domain
       . have d3:a.domain=c.domain:=d1.trans d2;simp only[d1,d2,d3,BS,BN,Ax]at h1 h2⊢;exact lt_trans _ _ _ h1 h2
       . simp only[d1,d2,BS,BN,AZ,Ax,AK]at h1 h2⊢;exact h2
     . simp only[d1,BS,AZ,AK]at h1;by_cases d2:b.domain=c.domain
       . rw[<-d2];simp only[d1,BS,AZ,AK];exact h1
       . simp only[d2,BS,AZ,AK]at h2;have h3:=lt_trans _ _ _ h1 h2;have d3:a.domain≠c.domain:=fun e=>by rw[e,lt_irrefl]at h3;cases h3
         simp only[d3,BS,AZ,AK];exact h3
   . simp only[n1,n2,BS,AZ,AK]at h2⊢;exact h2
 . simp only[n1,BS,AZ,AK]at h1;by_cases n2:b.name=c.name
   . rw[<-n2];simp only[n1,BS,AZ,AK];exact h1
   . simp only[n2,BS,AZ,AK]at h2;have h3:=lt_trans _ _ _ h1 h2;have n3:a.name≠c.name:=fun e=>by rw[e,lt_irrefl]at h3;cases h3
     simp only[n3,BS,AZ,AK];exact h3
theorem CJ (a b:bm):eH a b=true\/a=b\/eH b a=true:=by
 simp only[rL];by_cases h1:a.name=b.name
 . by_cases h2:a.domain=b.domain
   . simp only[h1,h2,BS,BN,Ax];rcases tz a.path b.path with h|h|h
     . exact .inl h
     . exact .inr (.inl (by cases a;cases b;simp_all))
     . exact .inr (.inr h)
   . have h2':=En h2;simp only[h1,h2,h2',BS,BN,AZ,Ax,AK];rcases tz a.domain b.domain with h|h|h
     . exact .inl h
     . exact absurd h h2
     . exact .inr (.inr h)
 . have h1':=En h1;simp only[h1,h1',BS,AZ,AK];rcases tz a.name b.name with h|h|h
   . exact .inl h
   . exact absurd h h1
   . exact .inr (.inr h)
end Go.Proofs
namespace Go.Proofs
open Go Go.Am Go.RowKit Go.Sy
section
variable [Inhabited aE]
theorem Tryz.nh:Tryz.tab.fns.get qU=some Tryz.f153:=by kernel_rfl
theorem uD (a b:List UInt8):run Tryz.tab 200 {fr:=ae.enter Tryz.f153 qU (Tryz.f153.body.getD .skip) [.str a, .str b] .normal,cs:=[],h:=db}= .ok [(.int .i64 (Extern.BytealgCompare.cmp ⟨a.toArray⟩ ⟨b.toArray⟩),db)]:=by kernel_rfl
noncomputable def kB:aR:={Y:=Bs×Bs,pre:=fun _=>True,args:=fun y=>[.str y.1, .str y.2],res:=fun y=> .int .i64 (cG y.1 y.2)}
theorem IG:CO qU kB:=by
 refine bq.shut cB fun fn body hfn hb y _ avs Fz hav=>?_
 rw[Tryz.nh]at hfn
 cases hfn;obtain⟨a,b⟩:=y;have hl:avs=[.str a, .str b]:=by
   obtain⟨h1,h2⟩:=hav
   cases avs with
   |nil=>simp[kB]at h1
   | cons u avs=>cases avs with
    |nil=>simp[kB]at h1
    | cons w avs=>cases avs with
     |cons=>simp[kB]at h1
     |nil=>
      have e1:=h2 0 _ u rfl rfl;have e2:=h2 1 _ w rfl rfl;simp only at e1 e2
      cases e1
      cases e2;rfl
 subst hl;refine⟨fun _ _=>rfl,fun v _=>v= .int .i64 (cG a b),?_,?_⟩
 . have ho:=uD a b;rw[hb]at ho;refine(da.run cB ho).mono fun v h' hm=>?_
   simp only[An,DC,DY,B9]at hm;rw[hm.1,Fh]
 . rintro v h' rfl;exact⟨fun _ _=>rfl, .int _ _⟩
end
section
variable [Inhabited aE]
def mP (x:cy) (now:Int):Bool:=x.persistent&&decide (x.bu<=now)
def gn (a b:ad):Int:=
 let n:=if bK a.ab.access b.ab.access≠0 then bK a.ab.access b.ab.access else bK a.ab.aq b.ab.aq
 if n≠0\/a.key=b.key then n else if eH a.key b.key then -1 else 1
def eS (a b:ad):Bool:=decide (gn a b<0)
def jK:List ad->Bool
 |x::y::l=>eH x.key y.key&&jK (y::l)
 |_=>true
def mw (l:List ad) (k:bm):List ad:=l.filter fun x=>decide (x.key≠k)
def xI (l:List ad) (d:Bs):List ad:=l.filter fun x=>decide (x.key.domain=d)
def sZ:bm:=⟨[],[],[]⟩
def Hb:ad:=⟨sZ,⟨[],false,false,false,false,0,0,0⟩⟩
def kZ (l:List Bs) (d:Bs):Nat:=(l.takeWhile fun x=>lt x d).length
def rm (l:List Bs) (d:Bs):List Bs:=if l[kZ l d]? =some d then l else l.take (kZ l d)++d::l.drop (kZ l d)
def GH (l:List ad):List Bs:=l.foldl (fun a x=>rm a x.key.domain) []
def qE (l:List ad) (d:Bs) (all:Bool):Option ad:=l.foldl (fun b x=>if all||decide (x.key.domain=d)then(match b with|none=>some x|some y=>if eS x y then some x else some y)else b) none
def pG (l:List ad) (d:Bs) (all:Bool):bm:=match qE l d all with|some x=>x.key|none=>sZ
def gP (c:bE):Int:=if c.dq<1\/c.dq>64\/c.domain<1\/c.domain>2048\/c.total<1\/c.total>2048 then 4 else jN c.rules
noncomputable def Kq:TypeId->Option View:=fun t=>bif Nat.beq t Ty.string then some ⟨Bs,dW⟩else bif Nat.beq t l7 then some ⟨ad,ad.enc⟩else none
noncomputable def cf (cJ:FuncId->Option aR) (iW:FuncId->Nat->Option bh):eZ:={tab:=jU,view:=Kq,cJ,iW}
def items (l:List ad):SV:= .aD ad l ad.enc
def IC (l:List ad):SO:= .arr ad l ad.enc l7
def Ic (f r:Nat) (A:bh) (a:FuncId->Nat->Option bh):FuncId->Nat->Option bh:=fun g s=>bif Nat.beq g f&&Nat.beq s r then some A else a g s
def tN:aR:={Y:=cy×Int,pre:=fun _=>True,args:=fun y=>[.agg y.1.enc,i64 y.2],res:=fun y=> .bool (mP y.1 y.2)}
def tI:aR:={Y:=Int×Int,pre:=fun _=>True,args:=fun y=>[i64 y.1,i64 y.2],res:=fun y=>i64 (bK y.1 y.2)}
def tL:aR:={Y:=bm×bm,pre:=fun _=>True,args:=fun y=>[.agg y.1.enc, .agg y.2.enc],res:=fun y=>i64 (jQ y.1 y.2)}
def tM:aR:={Y:=bm×bm,pre:=fun _=>True,args:=fun y=>[.agg y.1.enc, .agg y.2.enc],res:=fun y=> .bool (eH y.1 y.2)}
def tn:aR:={Y:=ad×ad,pre:=fun _=>True,args:=fun y=>[.agg y.1.enc, .agg y.2.enc],res:=fun y=>i64 (gn y.1 y.2)}
def mX (l:List ad):Prop:=l.length<=10000
def sY:aR:={Y:=List ad,pre:=mX,args:=fun y=>[items y],res:=fun y=> .bool (jK y)}
def pS (y:List ad):bh:={α:=Nat,ok:=fun i=>1<=i/\i<=y.length+1/\ ∀j (h:j+1<y.length),j+1<i->eH (y[j]'(by omega)).key y[j+1].key=true,μ:=fun i=>y.length+1 - i,bI:=[],bJ:=fun i=>[(0,items y),(3,i64 i)],cU:=fun _=>[]}
def jD:aR:={Y:=List ad×bm,pre:=fun y=>mX y.1,args:=fun y=>[items y.1, .agg y.2.enc],res:=fun y=>items (mw y.1 y.2)}
def jH:aR:={Y:=List ad×Bs,pre:=fun y=>mX y.1,args:=fun y=>[items y.1, .str y.2],res:=fun y=>items (xI y.1 y.2)}
def ic (l:List ad) (p:ad->Bool):bh:={α:=Nat,ok:=fun i=>i<=l.length,μ:=fun i=>l.length - i,bI:=[1],bJ:=fun i=>[(8,items l),(9,i64 (Int.ofNat l.length)),(10,i64 i),(5, .own 1)],cU:=fun i=>[(1,IC ((l.take i).filter p))]}
def rY:aR:={Y:=List ad×ad,pre:=fun y=>mX y.1,args:=fun y=>[items y.1, .agg y.2.enc],res:=fun y=> .bool (decide (y.2∈y.1))}
def p9 (y:List ad×ad):bh:={α:=Nat,ok:=fun i=>i<=y.1.length/\ ∀j (h:j<y.1.length),j<i->y.1[j]≠y.2,μ:=fun i=>y.1.length - i,bI:=[3],bJ:=fun i=>[(0,items y.1),(7,i64 (Int.ofNat y.1.length)),(8,i64 i)],cU:=fun _=>[]}
def xN (c:bE):Prop:=c.rules.length<=100000/\ ∀s∈c.rules,s.length<=100000
def sV:aR:={Y:=bE,pre:=xN,args:=fun y=>[.agg y.enc],res:=fun y=>i64 (gP y)}
noncomputable def qt (f:FuncId):Option aR:=bif Nat.beq f qU then some kB else yJ f
noncomputable def qu (f:FuncId):Option aR:=bif Nat.beq f lQ then some tN else bif Nat.beq f lJ then some tI else bif Nat.beq f lK then some kB else qt f
noncomputable def qv (f:FuncId):Option aR:=bif Nat.beq f lX then some tL else qu f
noncomputable def mM (f:FuncId):Option aR:=bif Nat.beq f lW then some tM else qv f
noncomputable def qw (f:FuncId):Option aR:=bif Nat.beq f lS then some tn else mM f
noncomputable def yK (f:FuncId):Option aR:=bif Nat.beq f iJ then some sY else bif Nat.beq f lO then some jD else bif Nat.beq f lU then some jH else bif Nat.beq f ux then some rY else bif Nat.beq f lR then some sV else qw f
noncomputable def yL (f:FuncId):Option aR:=yK f
end
section
variable [Inhabited aE]
theorem J1:(cd (fun(y:aR.Y tN)=>cf cH (dA y)) 400 lQ)=(∀(y:cy×Int),
 True->
 br y.1.persistent (cl y.1.bu y.2=mP y.1 y.2/\True)
 (false=mP y.1 y.2/\True)):=by kernel_rfl
theorem JT:(cd (fun(y:aR.Y tI)=>cf cH (dA y)) 400 lJ)=(∀(y:Int×Int),
 True->
 br (!y.1==y.1)
 (br (!y.2==y.2) (ay 0 (bK y.1 y.2)/\True) (ay (-1) (bK y.1 y.2)/\True))
 (br (!y.2==y.2) (ay 1 (bK y.1 y.2)/\True)
 (br (cu y.1 y.2) (ay (-1) (bK y.1 y.2)/\True)
 (br (cu y.2 y.1) (ay 1 (bK y.1 y.2)/\True)
 (ay 0 (bK y.1 y.2)/\True))))):=by kernel_rfl
theorem JU:(cd (fun(y:aR.Y kB)=>cf qt (dA y)) 400 lK)=(∀(y:Bs×Bs),
 True->
 ∃(y_1:Bs×Bs),
 y.1=y_1.1/\y.2=y_1.2/\True/\ay (cG y_1.1 y_1.2) (cG y.1 y.2)/\True):=by kernel_rfl
theorem JY:(cd (fun(y:aR.Y tL)=>cf qu (dA y)) 600 lX)=(∀(y:bm×bm),
 True->
 ∃(y_1:Bs×Bs),
 y.1.name=y_1.1/\
 y.2.name=y_1.2/\
 True/\
 ∃(y_2:Bs×Bs),
 y.1.domain=y_2.1/\
 y.2.domain=y_2.2/\
 True/\
 ∃(y_3:Bs×Bs),
 y.1.path=y_3.1/\
 y.2.path=y_3.2/\
 True/\
 br (!cG y_1.1 y_1.2==0)
 (ay (cG y_1.1 y_1.2) (jQ y.1 y.2)/\True)
 (br (!cG y_2.1 y_2.2==0)
 (ay (cG y_2.1 y_2.2) (jQ y.1 y.2)/\True)
 (br (!cG y_3.1 y_3.2==0)
 (ay (cG y_3.1 y_3.2) (jQ y.1 y.2)/\True)
 (ay 0 (jQ y.1 y.2)/\True)))):=by kernel_rfl
theorem JZ:(cd (fun(y:aR.Y tM)=>cf qv (dA y)) 400 lW)=(∀(y:bm×bm),
 True->
 ∃(y_1:bm×bm),
 y.1.name=y_1.1.name/\
 y.1.domain=y_1.1.domain/\
 y.1.path=y_1.1.path/\
 y.2.name=y_1.2.name/\
 y.2.domain=y_1.2.domain/\
 y.2.path=y_1.2.path/\
 True/\cu (jQ y_1.1 y_1.2) 0=eH y.1 y.2/\True):=by kernel_rfl
theorem I3:(cd (fun(y:aR.Y tn)=>cf mM (dA y)) 600 lS)=(∀(y:ad×ad),
 True->
 ∃(y_1:Int×Int),
 ay y.1.ab.access y_1.1/\
 ay y.2.ab.access y_1.2/\
 True/\
 ∃(y_2:Int×Int),
 ay y.1.ab.aq y_2.1/\
 ay y.2.ab.aq y_2.2/\
 True/\
 br (!bK y_1.1 y_1.2==0)
 (br (!bK y_1.1 y_1.2==0)
 (ay (bK y_1.1 y_1.2) (gn y.1 y.2)/\True)
 (br
 (y.1.key.name==y.2.key.name&&
 (y.1.key.domain==y.2.key.domain&&
 (y.1.key.path==y.2.key.path&&true)))
 (ay (bK y_1.1 y_1.2) (gn y.1 y.2)/\True)
 (∃(y_3:bm×bm),
 y.1.key.name=y_3.1.name/\
 y.1.key.domain=y_3.1.domain/\
 y.1.key.path=y_3.1.path/\
 y.2.key.name=y_3.2.name/\
 y.2.key.domain=y_3.2.domain/\
 y.2.key.path=y_3.2.path/\
 True/\
 br (eH y_3.1 y_3.2) (ay (-1) (gn y.1 y.2)/\True)
 (ay 1 (gn y.1 y.2)/\True))))
 (br (!bK y_2.1 y_2.2==0)
 (br (!bK y_2.1 y_2.2==0)
 (ay (bK y_2.1 y_2.2) (gn y.1 y.2)/\True)
 (br
 (y.1.key.name==y.2.key.name&&
 (y.1.key.domain==y.2.key.domain&&
 (y.1.key.path==y.2.key.path&&true)))
 (ay (bK y_2.1 y_2.2) (gn y.1 y.2)/\True)
 (∃(y_3:bm×bm),
 y.1.key.name=y_3.1.name/\
 y.1.key.domain=y_3.1.domain/\
 y.1.key.path=y_3.1.path/\
 y.2.key.name=y_3.2.name/\
 y.2.key.domain=y_3.2.domain/\
 y.2.key.path=y_3.2.path/\
 True/\
 br (eH y_3.1 y_3.2) (ay (-1) (gn y.1 y.2)/\True)
 (ay 1 (gn y.1 y.2)/\True))))
 (br
 (y.1.key.name==y.2.key.name&&
 (y.1.key.domain==y.2.key.domain&&
 (y.1.key.path==y.2.key.path&&true)))
 (ay 0 (gn y.1 y.2)/\True)
 (∃(y_3:bm×bm),
 y.1.key.name=y_3.1.name/\
 y.1.key.domain=y_3.1.domain/\
 y.1.key.path=y_3.1.path/\
 y.2.key.name=y_3.2.name/\
 y.2.key.domain=y_3.2.domain/\
 y.2.key.path=y_3.2.path/\
 True/\
 br (eH y_3.1 y_3.2) (ay (-1) (gn y.1 y.2)/\True)
 (ay 1 (gn y.1 y.2)/\True))))):=by kernel_rfl
theorem G8:(cd (fun(y:aR.Y sY)=>cf mM (dO iJ 2 (pS y))) 400 iJ)=(∀(y:List ad),
 y.length<=10000->
 (∃(x:Nat),
 (1<=x/\
 x<=y.length+1/\ ∀(j:Nat) (h:j+1<y.length),j+1<x->eH (ad.key y[j]) (ad.key y[j+1])=true)/\
 (SV.aD ad y ad.enc=SV.aD ad y ad.enc/\ay 1 ↑x/\True)/\True/\True)/\
 ∀(x:Nat),
 (1<=x/\
 x<=y.length+1/\ ∀(j:Nat) (h:j+1<y.length),j+1<x->eH (ad.key y[j]) (ad.key y[j+1])=true)->
 br (cu (↑x) (Int.ofNat y.length))
 (ck (cg .i64 (↑x - 1))
 (ck (nn (↑x - 1))
 (so y[Int.toNat (↑x - 1)]? fun(val:ad)=>
 so y[Int.toNat ↑x]? fun(val_1:ad)=>
 ∃(y_1:bm×bm),
 val.key.name=y_1.1.name/\
 val.key.domain=y_1.1.domain/\
 val.key.path=y_1.1.path/\
 val_1.key.name=y_1.2.name/\
 val_1.key.domain=y_1.2.domain/\
 val_1.key.path=y_1.2.path/\
 True/\
 br (!eH y_1.1 y_1.2) (false=jK y/\True)
 (ck (cg .i64 (↑x+1))
 (∃(y_2:Nat),
 (1<=y_2/\
 y_2<=y.length+1/\
 ∀(j:Nat) (h:j+1<y.length),
 j+1<y_2->eH (ad.key y[j]) (ad.key y[j+1])=true)/\
 bh.μ (pS y) y_2<bh.μ (pS y) x/\
 (SV.aD ad y ad.enc=SV.aD ad y ad.enc/\
 ay (↑x+1) ↑y_2/\True)/\
 True/\True)))))
 (true=jK y/\True)):=by kernel_rfl
theorem GQ:(cd (fun(y:aR.Y jD)=>cf cH (dO jZ 3 (ic y.1 fun(x:ad)=>Decidable.decide (x.key≠y.2)))) 600 lO)=(∀(y:List ad×bm),
 y.1.length<=10000->
 (∃(x:Nat),
 x<=y.1.length/\
 (SV.fn 43 [] [SV.ptr (SH.next (St.h {ts:=Fr.of (aR.args jD y) 0,h:={next:=0,os:=[]},log:=[]})) 0]=
 SV.fn 43 []
 [SV.ptr (SH.next (St.h {ts:=Fr.of (aR.args jD y) 0,h:={next:=0,os:=[]},log:=[]})) 0]/\
 SV.aD ad y.1 ad.enc=SV.aD ad y.1 ad.enc/\
 ay (Int.ofNat y.1.length) (Int.ofNat y.1.length)/\ay 0 ↑x/\True/\True)/\
 ((List.filter (fun(x:ad)=>Decidable.decide (x.key≠y.2)) (List.take x y.1)=[]/\
 ∀(x:ad),List.length (ad.enc x)=11)/\
 (y.2.name=y.2.name/\
 y.2.domain=y.2.domain/\y.2.path=y.2.path/\True)/\
 True)/\
 True)/\
 ∀(x:Nat),
 x<=y.1.length->
 br (cu (↑x) (Int.ofNat y.1.length))
 (so y.1[Int.toNat ↑x]? fun(val:ad)=>
 br
 (!(val.key.name==y.2.name&&
 (val.key.domain==y.2.domain&&
 (val.key.path==y.2.path&&true))))
 (∃(x_1:ad),
 (ad.enc x_1)=
 (ad.enc val)/\
 ck
 (Nat.ble
 ((List.length (List.filter (fun(x:ad)=>Decidable.decide (x.key≠y.2)) (List.take x y.1))+
 List.length [x_1])*
 96)
 16777216&&
 Nat.ble
 (List.length (List.filter (fun(x:ad)=>Decidable.decide (x.key≠y.2)) (List.take x y.1))+
 List.length [x_1])
 16777216)
 (ck (cg .i64 (↑x+1))
 (∃(y_1:Nat),
 y_1<=y.1.length/\
 bh.μ (ic y.1 fun(x:ad)=>Decidable.decide (x.key≠y.2)) y_1<
 bh.μ (ic y.1 fun(x:ad)=>Decidable.decide (x.key≠y.2)) x/\
 (SV.fn 43 []
 [SV.ptr
 (SH.next (St.h {ts:=Fr.of (aR.args jD y) 0,h:={next:=0,os:=[]},log:=[]})) 0]=
 SV.fn 43 []
 [SV.ptr
 (SH.next (St.h {ts:=Fr.of (aR.args jD y) 0,h:={next:=0,os:=[]},log:=[]})) 0]/\
 SV.aD ad y.1 ad.enc=SV.aD ad y.1 ad.enc/\
 ay (Int.ofNat y.1.length) (Int.ofNat y.1.length)/\ay (↑x+1) ↑y_1/\True/\True)/\
 (SV.aD ad
 (List.filter (fun(x:ad)=>Decidable.decide (x.key≠y.2)) (List.take x y.1)++[x_1])
 ad.enc=
 SV.aD ad
 (List.filter (fun(x:ad)=>Decidable.decide (x.key≠y.2)) (List.take y_1 y.1))
 ad.enc/\
 (y.2.name=y.2.name/\
 y.2.domain=y.2.domain/\
 y.2.path=y.2.path/\True)/\
 True)/\
 True)))
 (ck (cg .i64 (↑x+1))
 (∃(y_1:Nat),
 y_1<=y.1.length/\
 bh.μ (ic y.1 fun(x:ad)=>Decidable.decide (x.key≠y.2)) y_1<
 bh.μ (ic y.1 fun(x:ad)=>Decidable.decide (x.key≠y.2)) x/\
 (SV.fn 43 []
 [SV.ptr (SH.next (St.h {ts:=Fr.of (aR.args jD y) 0,h:={next:=0,os:=[]},log:=[]}))
 0]=
 SV.fn 43 []
 [SV.ptr (SH.next (St.h {ts:=Fr.of (aR.args jD y) 0,h:={next:=0,os:=[]},log:=[]}))
 0]/\
 SV.aD ad y.1 ad.enc=SV.aD ad y.1 ad.enc/\
 ay (Int.ofNat y.1.length) (Int.ofNat y.1.length)/\ay (↑x+1) ↑y_1/\True/\True)/\
 (SV.aD ad
 (List.filter (fun(x:ad)=>Decidable.decide (x.key≠y.2)) (List.take x y.1))
 ad.enc=
 SV.aD ad
 (List.filter (fun(x:ad)=>Decidable.decide (x.key≠y.2)) (List.take y_1 y.1))
 ad.enc/\
 (y.2.name=y.2.name/\
 y.2.domain=y.2.domain/\
 y.2.path=y.2.path/\True)/\
 True)/\
 True)))
 (SV.aD ad (List.filter (fun(x:ad)=>Decidable.decide (x.key≠y.2)) (List.take x y.1))
 ad.enc=
 SV.aD ad (mw y.1 y.2) ad.enc/\
 True)):=by kernel_rfl
theorem G5:(cd (fun(y:aR.Y jH)=>cf cH (dO jZ 3 (ic y.1 fun(x:ad)=>Decidable.decide (x.key.domain=y.2)))) 600 lU)=(∀(y:List ad×Bs),
 y.1.length<=10000->
 (∃(x:Nat),
 x<=y.1.length/\
 (SV.fn 157 [] [SV.ptr (SH.next (St.h {ts:=Fr.of (aR.args jH y) 0,h:={next:=0,os:=[]},log:=[]})) 0]=
 SV.fn 157 []
 [SV.ptr (SH.next (St.h {ts:=Fr.of (aR.args jH y) 0,h:={next:=0,os:=[]},log:=[]})) 0]/\
 SV.aD ad y.1 ad.enc=SV.aD ad y.1 ad.enc/\
 ay (Int.ofNat y.1.length) (Int.ofNat y.1.length)/\ay 0 ↑x/\True/\True)/\
 ((List.filter (fun(x:ad)=>Decidable.decide (x.key.domain=y.2)) (List.take x y.1)=[]/\
 ∀(x:ad),List.length (ad.enc x)=11)/\
 (y.2=y.2/\True)/\True)/\
 True)/\
 ∀(x:Nat),
 x<=y.1.length->
 br (cu (↑x) (Int.ofNat y.1.length))
 (so y.1[Int.toNat ↑x]? fun(val:ad)=>
 br (val.key.domain==y.2)
 (∃(x_1:ad),
 (ad.enc x_1)=
 (ad.enc val)/\
 ck
 (Nat.ble
 ((List.length
 (List.filter (fun(x:ad)=>Decidable.decide (x.key.domain=y.2))
 (List.take x y.1))+
 List.length [x_1])*
 96)
 16777216&&
 Nat.ble
 (List.length
 (List.filter (fun(x:ad)=>Decidable.decide (x.key.domain=y.2))
 (List.take x y.1))+
 List.length [x_1])
 16777216)
 (ck (cg .i64 (↑x+1))
 (∃(y_1:Nat),
 y_1<=y.1.length/\
 bh.μ (ic y.1 fun(x:ad)=>Decidable.decide (x.key.domain=y.2))
 y_1<
 bh.μ
 (ic y.1 fun(x:ad)=>Decidable.decide (x.key.domain=y.2)) x/\
 (SV.fn 157 []
 [SV.ptr
 (SH.next (St.h {ts:=Fr.of (aR.args jH y) 0,h:={next:=0,os:=[]},log:=[]})) 0]=
 SV.fn 157 []
 [SV.ptr
 (SH.next (St.h {ts:=Fr.of (aR.args jH y) 0,h:={next:=0,os:=[]},log:=[]})) 0]/\
 SV.aD ad y.1 ad.enc=SV.aD ad y.1 ad.enc/\
 ay (Int.ofNat y.1.length) (Int.ofNat y.1.length)/\ay (↑x+1) ↑y_1/\True/\True)/\
 (SV.aD ad
 (List.filter (fun(x:ad)=>Decidable.decide (x.key.domain=y.2))
 (List.take x y.1)++
 [x_1])
 ad.enc=
 SV.aD ad
 (List.filter (fun(x:ad)=>Decidable.decide (x.key.domain=y.2))
 (List.take y_1 y.1))
 ad.enc/\
 (y.2=y.2/\True)/\True)/\
 True)))
 (ck (cg .i64 (↑x+1))
 (∃(y_1:Nat),
 y_1<=y.1.length/\
 bh.μ (ic y.1 fun(x:ad)=>Decidable.decide (x.key.domain=y.2)) y_1<
 bh.μ (ic y.1 fun(x:ad)=>Decidable.decide (x.key.domain=y.2)) x/\
 (SV.fn 157 []
 [SV.ptr (SH.next (St.h {ts:=Fr.of (aR.args jH y) 0,h:={next:=0,os:=[]},log:=[]}))
 0]=
 SV.fn 157 []
 [SV.ptr (SH.next (St.h {ts:=Fr.of (aR.args jH y) 0,h:={next:=0,os:=[]},log:=[]}))
 0]/\
 SV.aD ad y.1 ad.enc=SV.aD ad y.1 ad.enc/\
 ay (Int.ofNat y.1.length) (Int.ofNat y.1.length)/\ay (↑x+1) ↑y_1/\True/\True)/\
 (SV.aD ad
 (List.filter (fun(x:ad)=>Decidable.decide (x.key.domain=y.2))
 (List.take x y.1))
 ad.enc=
 SV.aD ad
 (List.filter (fun(x:ad)=>Decidable.decide (x.key.domain=y.2))
 (List.take y_1 y.1))
 ad.enc/\
 (y.2=y.2/\True)/\True)/\
 True)))
 (SV.aD ad
 (List.filter (fun(x:ad)=>Decidable.decide (x.key.domain=y.2)) (List.take x y.1))
 ad.enc=
 SV.aD ad (xI y.1 y.2) ad.enc/\
 True)):=by kernel_rfl
theorem FG:(cd (fun(y:aR.Y rY)=>cf cH (dO oF 2 (p9 y))) 400 ux)=(∀(y:List ad×ad),
 y.1.length<=10000->
 (∃(x:Nat),
 (x<=y.1.length/\ ∀(j:Nat) (h:j<y.1.length),j<x->y.1[j]=y.2->False)/\
 (True/\
 SV.aD ad y.1 ad.enc=SV.aD ad y.1 ad.enc/\
 ay (Int.ofNat y.1.length) (Int.ofNat y.1.length)/\ay 0 ↑x/\True)/\
 ((y.2.key.name=y.2.key.name/\
 y.2.key.domain=y.2.key.domain/\
 y.2.key.path=y.2.key.path/\
 y.2.ab.value=y.2.ab.value/\
 y.2.ab.aY=y.2.ab.aY/\
 y.2.ab.bz=y.2.ab.bz/\
 y.2.ab.aZ=y.2.ab.aZ/\
 y.2.ab.persistent=y.2.ab.persistent/\
 ay y.2.ab.bu y.2.ab.bu/\
 ay y.2.ab.aq y.2.ab.aq/\
 ay y.2.ab.access y.2.ab.access/\
 True)/\
 (y.2.key.name=y.2.key.name/\
 y.2.key.domain=y.2.key.domain/\
 y.2.key.path=y.2.key.path/\
 y.2.ab.value=y.2.ab.value/\
 y.2.ab.aY=y.2.ab.aY/\
 y.2.ab.bz=y.2.ab.bz/\
 y.2.ab.aZ=y.2.ab.aZ/\
 y.2.ab.persistent=y.2.ab.persistent/\
 ay y.2.ab.bu y.2.ab.bu/\
 ay y.2.ab.aq
 y.2.ab.aq/\
 ay y.2.ab.access y.2.ab.access/\
 True)/\
 True)/\
 True)/\
 ∀(x:Nat),
 (x<=y.1.length/\ ∀(j:Nat) (h:j<y.1.length),j<x->y.1[j]=y.2->False)->
 br (cu (↑x) (Int.ofNat y.1.length))
 (so y.1[Int.toNat ↑x]? fun(val:ad)=>
 br
 (y.2.key.name==val.key.name&&
 (y.2.key.domain==val.key.domain&&
 (y.2.key.path==val.key.path&&true))&&
 (y.2.ab.value==val.ab.value&&
 (y.2.ab.aY==val.ab.aY&&
 (y.2.ab.bz==val.ab.bz&&
 (y.2.ab.aZ==val.ab.aZ&&
 (y.2.ab.persistent==val.ab.persistent&&
 (y.2.ab.bu==val.ab.bu&&
 (y.2.ab.aq==val.ab.aq&&
 (y.2.ab.access==val.ab.access&&true)))))))&&
 true))
 (cl 0 ↑x=Decidable.decide (y.2∈y.1)/\True)
 (ck (cg .i64 (↑x+1))
 (∃(y_1:Nat),
 (y_1<=y.1.length/\ ∀(j:Nat) (h:j<y.1.length),j<y_1->y.1[j]=y.2->False)/\
 bh.μ (p9 y) y_1<bh.μ (p9 y) x/\
 (True/\
 SV.aD ad y.1 ad.enc=SV.aD ad y.1 ad.enc/\
 ay (Int.ofNat y.1.length) (Int.ofNat y.1.length)/\ay (↑x+1) ↑y_1/\True)/\
 ((y.2.key.name=y.2.key.name/\
 y.2.key.domain=y.2.key.domain/\
 y.2.key.path=y.2.key.path/\
 y.2.ab.value=y.2.ab.value/\
 y.2.ab.aY=y.2.ab.aY/\
 y.2.ab.bz=y.2.ab.bz/\
 y.2.ab.aZ=y.2.ab.aZ/\
 y.2.ab.persistent=
 y.2.ab.persistent/\
 ay y.2.ab.bu
 y.2.ab.bu/\
 ay y.2.ab.aq
 y.2.ab.aq/\
 ay y.2.ab.access
 y.2.ab.access/\
 True)/\
 (y.2.key.name=y.2.key.name/\
 y.2.key.domain=y.2.key.domain/\
 y.2.key.path=y.2.key.path/\
 y.2.ab.value=y.2.ab.value/\
 y.2.ab.aY=y.2.ab.aY/\
 y.2.ab.bz=y.2.ab.bz/\
 y.2.ab.aZ=y.2.ab.aZ/\
 y.2.ab.persistent=
 y.2.ab.persistent/\
 ay y.2.ab.bu
 y.2.ab.bu/\
 ay y.2.ab.aq
 y.2.ab.aq/\
 ay y.2.ab.access
 y.2.ab.access/\
 True)/\
 True)/\
 True)))
 (cl 0 (-1)=Decidable.decide (y.2∈y.1)/\True)):=by kernel_rfl
theorem G3:(cd (fun(y:aR.Y sV)=>cf qw (dA y)) 600 lR)=(∀(y:bE),
 (y.rules.length<=100000/\ ∀(s:Bs),s∈y.rules->s.length<=100000)->
 br (cl 1 y.dq)
 (br (!cl y.dq 64) (ay 4 (gP y)/\True)
 (br (cl 1 y.domain)
 (br (!cl y.domain 2048) (ay 4 (gP y)/\True)
 (br (cl 1 y.total)
 (br (!cl y.total 2048) (ay 4 (gP y)/\True)
 (∃(y_1:List Bs),
 SV.aD Bs y.rules dW=SV.aD Bs y_1 dW/\
 (y_1.length<=100000/\ ∀(s:Bs),s∈y_1->s.length<=100000)/\ay (jN y_1) (gP y)/\True))
 (ay 4 (gP y)/\True)))
 (ay 4 (gP y)/\True)))
 (ay 4 (gP y)/\True)):=by kernel_rfl
end
section
variable [Inhabited aE]
theorem xf:∀g C,qt g=some C->CO g C:=dw IG GA
theorem td (a b:bm):(a.name==b.name&&(a.domain==b.domain&&(a.path==b.path&&true)))=decide (a=b):=by
 rw[A3]
 cases a;cases b;simp
section
variable {l:List ad} {p:ad->Bool} {x:Nat}
theorem pg (h:x<l.length):(l.take (x+1)).filter p=(l.take x).filter p++if p l[x]then[l[x]]else[]:=by
 rw[AP h,List.filter_append];by_cases hp:p l[x]=true<;>simp[hp]
theorem vz:((l.take x).filter p).length<=x:=AG (Dj _ _) (by simp;omega)
theorem filter_all (h:¬(x:Int)<Int.ofNat l.length):(l.take x).filter p=l.filter p:=by
 rw[A2 (by simp only[Ak]at h;omega)]
end
theorem Io:CO lQ tN:=cZ (cfg:=fun y=>cf cH (dA y)) cB (fun _=>rfl) (fun _=>gR) (n:=400) (by
 rw[J1];rintro⟨c,now⟩ _;refine ak.2 ⟨fun h=>⟨?_,trivial⟩,fun h=>⟨?_,trivial⟩⟩
 . have h:c.persistent=true:=h;unfold mP;rw[h,gl,BF]
 . have h:c.persistent=false:=h;unfold mP;rw[h,Dv])
theorem IF:CO lJ tI:=cZ (cfg:=fun y=>cf cH (dA y)) cB (fun _=>rfl) (fun _=>gR) (n:=400) (by
 rw[JT];rintro⟨a,b⟩ -;simp[ak,de,bK];refine⟨fun h1 h2=>by omega,fun h1=>⟨fun h2=>?_,fun h2=>?_⟩⟩
 . rw[Ae (by omega),Ai h2]
 . rw[Ae (by omega),Ae (by omega)])
theorem HW:CO lK kB:=cZ (cfg:=fun y=>cf qt (dA y)) cB (fun _=>rfl) (fun _=>xf) (n:=400) (by
 rw[JU];rintro⟨a,b⟩ -;exact⟨(a,b),rfl,rfl,trivial,rfl,trivial⟩)
theorem xg:∀g C,qu g=some C->CO g C:=dw Io (dw IF (dw HW xf))
theorem Ik:CO lX tL:=cZ (cfg:=fun y=>cf qu (dA y)) cB (fun _=>rfl) (fun _=>xg) (n:=600) (by
 rw[JY];rintro⟨a,b⟩ -;refine⟨(_,_),rfl,rfl,trivial,⟨(_,_),rfl,rfl,trivial,⟨(_,_),rfl,rfl,trivial,?_⟩⟩⟩;simp only[ak,jQ,DA];generalize cG a.name b.name=n
 generalize cG a.domain b.domain=d
 generalize cG a.path b.path=p
 refine⟨fun h=>?_,fun h=>⟨fun h2=>?_,fun h2=>⟨fun h3=>?_,fun h3=>?_⟩⟩⟩<;>simp_all)
theorem wD:∀g C,qv g=some C->CO g C:=dw Ik xg
theorem Il:CO lW tM:=cZ (cfg:=fun y=>cf qv (dA y)) cB (fun _=>rfl) (fun _=>wD) (n:=400) (by
 rw[JZ];rintro⟨a,b⟩ -;refine⟨(a,b),rfl,rfl,rfl,rfl,rfl,rfl,trivial,?_,trivial⟩;simp only[de,eH])
theorem sA:∀g C,mM g=some C->CO g C:=dw Il wD
theorem HG:CO lS tn:=cZ (cfg:=fun y=>cf mM (dA y)) cB (fun _=>rfl) (fun _=>sA) (n:=600) (by
 rw[I3];rintro⟨a,b⟩ -;refine⟨(_,_),rfl,rfl,trivial,⟨(_,_),rfl,rfl,trivial,?_⟩⟩;simp only[td,ak,gn];generalize bK a.ab.access b.ab.access=n
 generalize bK a.ab.aq b.ab.aq=m
 refine⟨fun hn=>⟨fun _=>?_,fun hn2=>?_⟩,fun hn=>⟨fun hm=>⟨fun _=>?_,fun hm2=>?_⟩,fun hm=>⟨fun hkk=>?_,fun hkk=>⟨(a.key,b.key),rfl,rfl,rfl,rfl,rfl,rfl,trivial,fun hl=>?_,fun hl=>?_⟩⟩⟩⟩
 all_goals simp_all)
theorem wE:∀g C,qw g=some C->CO g C:=dw HG sA
theorem rS:∀l:List ad,jK l=true↔∀(j:Nat) (h:j+1<l.length),eH (l[j]'(by omega)).key l[j+1].key=true
 |[]=>by simp[jK]
 |[x]=>by simp[jK]
 |x::y::l=>by
  rw[jK,Ab,rS (y::l)];constructor
  . rintro⟨h1,h2⟩ j hj
    cases j with
    |zero=>exact h1
    |succ j=>exact h2 j (by simpa using hj)
  . intro h;exact⟨h 0 (by simp),fun j hj=>h (j+1) (by simpa using hj)⟩
theorem Ht:CO iJ sY:=cZ (cfg:=fun y=>cf mM (dO iJ 2 (pS y))) cB (fun _=>rfl) (fun _=>sA) (n:=400) (by
 rw[G8];intro l hpre;have hpre:l.length<=10000:=hpre;refine⟨⟨1,⟨by omega,by omega,fun j h hj=>by omega⟩,⟨rfl,rfl,trivial⟩,trivial,trivial⟩,?_⟩;rintro x ⟨h1,hx,hall⟩;refine ak.2 ⟨fun hlt=>?_,fun hge=>⟨?_,trivial⟩⟩
 . have hlt':=dB hlt;have e:Int.toNat ((x:Int) - 1)=x - 1:=by omega
   refine aB.2 ⟨by rw[kz];omega,aB.2 ⟨by rw[qS,Ao];omega,aN.2 ⟨l[x - 1],by rw[e];exact Af (by omega),aN.2 ⟨l[x],eA hlt',((l[x - 1]).key,(l[x]).key),rfl,rfl,rfl,rfl,rfl,rfl,trivial,ak.2 ⟨fun h=>⟨?_,trivial⟩,fun h=>aB.2 ⟨eG x (by omega),x+1,⟨by omega,by omega,fun j hj hjx=>?_⟩,?_,⟨rfl,rfl,trivial⟩,trivial,trivial⟩⟩⟩⟩⟩⟩
   . symm;rw[Ar];intro hr;have:=(rS l).1 hr (x - 1) (by omega);simp only[show x - 1+1=x by omega]at this;simp[this]at h
   . by_cases e2:j+1=x
     . subst e2;simpa using h
     . exact hall j hj (by omega)
   . show l.length+1 - (x+1)<l.length+1 - x
     omega
 . symm;rw[rS];intro j hj;have:=iA hge;simp only[Ak]at this;exact hall j hj (by omega))
theorem F0:CO lO jD:=cZ (cfg:=fun y=>cf cH (dO jZ 3 (ic (y:List ad×bm).1 fun x=>decide (x.key≠(y:List ad×bm).2)))) cB (fun _=>rfl) (fun _=>gR) (n:=600) (by
 rw[GQ];rintro⟨l,k⟩ hpre;have hpre:l.length<=10000:=hpre;refine⟨⟨0,by simp,?_⟩,?_⟩
 . (repeat' (first|exact trivial|exact rfl|exact(fun _=>rfl)|apply And.intro))
 intro x hx;refine ak.2 ⟨fun hlt=>aN.2 ⟨_,eA (dB hlt),?_⟩,fun hge=>⟨by rw[filter_all (iA hge)];rfl,trivial⟩⟩;have hlt':x<l.length:=dB hlt;have hlen:=vz (l:=l) (x:=x) (p:=fun z:ad=>decide (z.key≠k));refine ak.2 ⟨fun h=>⟨l[x],rfl,aB.2 ⟨by simp only[Ab,Be,AR,Bf];omega,aB.2 ⟨eG x (by omega),x+1,hlt',?_,?_⟩⟩⟩,fun h=>aB.2 ⟨eG x (by omega),x+1,hlt',?_,?_⟩⟩
 . show l.length - (x+1)<l.length - x
   omega
 . have hp:(fun z:ad=>decide (z.key≠k)) l[x]=true:=by rw[td]at h;simpa using h
   have hf:=pg (p:=fun z:ad=>decide (z.key≠k)) hlt';rw[Ai hp]at hf
   (repeat' (first|exact trivial|exact rfl|exact(fun _=>rfl)|apply And.intro))
   all_goals (first|(rw[hf])|(simp[ay]))
 . show l.length - (x+1)<l.length - x
   omega
 . have hp:(fun z:ad=>decide (z.key≠k)) l[x]=false:=by rw[td]at h;simpa using h
   have hf:=pg (p:=fun z:ad=>decide (z.key≠k)) hlt';rw[Ae (by simp only[hp];simp),Da]at hf
   (repeat' (first|exact trivial|exact rfl|exact(fun _=>rfl)|apply And.intro))
   all_goals (first|(rw[hf])|(simp[ay])))
theorem Hp:CO lU jH:=cZ (cfg:=fun y=>cf cH (dO jZ 3 (ic (y:List ad×Bs).1 fun x=>decide (x.key.domain=(y:List ad×Bs).2)))) cB (fun _=>rfl) (fun _=>gR) (n:=600) (by
 rw[G5];rintro⟨l,k⟩ hpre;have hpre:l.length<=10000:=hpre;refine⟨⟨0,by simp,?_⟩,?_⟩
 . (repeat' (first|exact trivial|exact rfl|exact(fun _=>rfl)|apply And.intro))
 intro x hx;refine ak.2 ⟨fun hlt=>aN.2 ⟨_,eA (dB hlt),?_⟩,fun hge=>⟨by rw[filter_all (iA hge)];rfl,trivial⟩⟩;have hlt':x<l.length:=dB hlt;have hlen:=vz (l:=l) (x:=x) (p:=fun z:ad=>decide (z.key.domain=k));refine ak.2 ⟨fun h=>⟨l[x],rfl,aB.2 ⟨by simp only[Ab,Be,AR,Bf];omega,aB.2 ⟨eG x (by omega),x+1,hlt',?_,?_⟩⟩⟩,fun h=>aB.2 ⟨eG x (by omega),x+1,hlt',?_,?_⟩⟩
 . show l.length - (x+1)<l.length - x
   omega
 . have hp:(fun z:ad=>decide (z.key.domain=k)) l[x]=true:=by simpa using h
   have hf:=pg (p:=fun z:ad=>decide (z.key.domain=k)) hlt';rw[Ai hp]at hf
   (repeat' (first|exact trivial|exact rfl|exact(fun _=>rfl)|apply And.intro))
   all_goals (first|(rw[hf])|(simp[ay]))
 . show l.length - (x+1)<l.length - x
   omega
 . have hp:(fun z:ad=>decide (z.key.domain=k)) l[x]=false:=by simpa using h
   have hf:=pg (p:=fun z:ad=>decide (z.key.domain=k)) hlt';rw[Ae (by simp only[hp];simp),Da]at hf
   (repeat' (first|exact trivial|exact rfl|exact(fun _=>rfl)|apply And.intro))
   all_goals (first|(rw[hf])|(simp[ay])))
theorem od {x n:Nat} (h:cu (x:Int) (Int.ofNat n)=false):n<=x:=by
 have:=iA h;simp only[Ak]at this;omega
theorem xl (a b:ad):(a.key.name==b.key.name&&(a.key.domain==b.key.domain&&(a.key.path==b.key.path&&true))&&(a.ab.value==b.ab.value&&(a.ab.aY==b.ab.aY&&(a.ab.bz==b.ab.bz&&(a.ab.aZ==b.ab.aZ&&(a.ab.persistent==b.ab.persistent&&(a.ab.bu==b.ab.bu&&(a.ab.aq==b.ab.aq&&(a.ab.access==b.ab.access&&true)))))))&&true))=decide (a=b):=by
 rw[A3];obtain⟨⟨a1,a2,a3⟩,⟨a4,a5,a6,a7,a8,a9,a10,a11⟩⟩:=a;obtain⟨⟨b1,b2,b3⟩,⟨b4,b5,b6,b7,b8,b9,b10,b11⟩⟩:=b;simp only[Ab,Dr,Ao,ad.mk.injEq,bm.mk.injEq,cy.mk.injEq,DA]
theorem Fs:CO ux rY:=cZ (cfg:=fun y=>cf cH (dO oF 2 (p9 y))) cB (fun _=>rfl) (fun _=>gR) (n:=400) (by
 rw[FG];rintro⟨l,k⟩ hpre;have hpre:l.length<=10000:=hpre;refine⟨⟨0,⟨by simp,fun j h hj=>by omega⟩,?_⟩,?_⟩
 . (repeat' (first|exact trivial|exact rfl|exact(fun _=>rfl)|apply And.intro))
 rintro x ⟨hx,hall⟩;refine ak.2 ⟨fun hlt=>aN.2 ⟨_,eA (dB hlt),?_⟩,fun hge=>⟨?_,trivial⟩⟩
 . have hlt':x<l.length:=dB hlt;refine ak.2 ⟨fun h=>⟨?_,trivial⟩,fun h=>aB.2 ⟨eG x (by omega),x+1,⟨hlt',fun j hj hjx he=>?_⟩,?_,?_⟩⟩
   . rw[xl]at h;have h:k=l[x]:=by simpa using h
     rw[gl,A3];have hm:k∈l:=by rw[h];exact AX hlt'
     simp[hm]
   . rw[xl]at h;have h:¬k=l[x]:=by simpa using h
     by_cases hji:j=x
     . subst hji;exact h he.symm
     . exact hall j hj (by omega) he
   . show l.length - (x+1)<l.length - x
     omega
   . (repeat' (first|exact trivial|exact rfl|exact(fun _=>rfl)|apply And.intro))
 . rw[gl];symm;have hm:¬k∈l:=by
     intro hm;obtain⟨j,hj,he⟩:=B6 hm;exact hall j hj (by have:l.length<=x:=od hge;omega) he
   simp[hm])
theorem Hn:CO lR sV:=cZ (cfg:=fun y=>cf qw (dA y)) cB (fun _=>rfl) (fun _=>wE) (n:=600) (by
 rw[G3];intro c hpre;have four:(c.dq<1\/c.dq>64\/c.domain<1\/c.domain>2048\/c.total<1\/c.total>2048)->ay 4 (gP c)/\True:=by
   intro h;unfold gP;rw[Ai h];exact⟨rfl,trivial⟩
 simp only[gl];refine ak.2 ⟨fun h1=>ak.2 ⟨fun h2=>four ?_,fun h2=>ak.2 ⟨fun h3=>ak.2 ⟨fun h4=>four ?_,fun h4=>ak.2 ⟨fun h5=>ak.2 ⟨fun h6=>four ?_,fun h6=>⟨c.rules,rfl,hpre,?_,trivial⟩⟩,fun h5=>four ?_⟩⟩,fun h3=>four ?_⟩⟩,fun h1=>four ?_⟩
 all_goals (simp at*)
 . omega
 . omega
 . omega
 . unfold gP;rw[Ae (by omega)]
 . omega
 . omega
 . omega)
theorem E5 {α β:Type} (f:β->α->β) (b:β) {l:List α} {x:Nat} (h:x<l.length):(l.take (x+1)).foldl f b=f ((l.take x).foldl f b) l[x]:=by
 rw[AP h,List.foldl_append];rfl
theorem FV {α:Type} {l:List α} {x:Nat} (h:¬(x:Int)<Int.ofNat l.length):l.take x=l:=A2 (by simp only[Ak]at h;omega)
theorem GB:∀g C,yK g=some C->CO g C:=dw Ht (dw F0 (dw Hp (dw Fs (dw Hn wE))))
theorem yB {α:Type} {p:α->Bool}:∀{l:List α} {j:Nat} (_:j<(l.takeWhile p).length),∃h:j<l.length,p l[j]=true
 |[],j,hj=>by simp at hj
 | a ::l,j,hj=>by
  by_cases hb:p a=true
  . rw[Bg,Ai hb]at hj
    cases j with
    |zero=>exact⟨by simp,by simpa using hb⟩
    |succ j=>
     obtain⟨h1,h2⟩:=yB (l:=l) (j:=j) (by simpa using hj);exact⟨by simpa using h1,by simpa using h2⟩
  . rw[Bg,Ae hb]at hj;simp at hj
theorem yS {α:Type} {p:α->Bool}:∀{l:List α} (h:(l.takeWhile p).length<l.length),p (l[(l.takeWhile p).length])=false
 |[],h=>by simp at h
 |a::l,h=>by
  by_cases hb:p a=true
  . have e:((a::l).takeWhile p).length=(l.takeWhile p).length+1:=by rw[Bg,Ai hb];rfl
    simp only[e,Er];exact yS (by rw[e]at h;simpa using h)
  . have e:((a::l).takeWhile p).length=0:=by rw[Bg,Ae hb];rfl
    simp only[e,Ep];exact Ar.2 hb
theorem GC:∀g C,yL g=some C->CO g C:=GB
end
section
variable [Inhabited aE]
structure aj where
 dev:Int
 inc:Int
 seq:Int
deriving DecidableEq,Inhabited
structure di where
 wall:Int
 count:Int
 dev:Int
deriving DecidableEq,Inhabited
def aj.enc (x:aj):List SV:=[.int .i64 x.dev, .int .i64 x.inc, .int .i64 x.seq]
def di.enc (x:di):List SV:=[.int .i64 x.wall, .int .i64 x.count, .int .i64 x.dev]
def J2 (d i:Int):Bool:=cl 0 d&&cl d 63&&cl 1 i&&cl i 1048576
def tD (x:aj):Bool:=J2 x.dev x.inc&&cl 1 x.seq&&cl x.seq 4294967296
def within (a b c:Int):Bool:=cl b a&&cl a c
def hU (a b:Int):Int:=if a=0 then b else a
def qc (x y:aj):Int:=hU (bK x.dev y.dev) (bK x.inc y.inc)
def je (x y:aj):Int:=hU (qc x y) (bK x.seq y.seq)
def bl (x y:aj):Bool:=decide (je x y<0)
def tx (x y:di):Int:=hU (bK x.wall y.wall) (bK x.count y.count)
def sC (x y:di):Bool:=decide (hU (tx x y) (bK x.dev y.dev)<0)
def xE:aR:={Y:=Int×Int×Int,pre:=fun _=>True,args:=fun y=>[i64 y.1,i64 y.2.1,i64 y.2.2],res:=fun y=> .bool (within y.1 y.2.1 y.2.2)}
def yF:aR:={Y:=aj×aj,pre:=fun _=>True,args:=fun y=>[.agg [i64 y.1.dev,i64 y.1.inc], .agg [i64 y.2.dev,i64 y.2.inc]],res:=fun y=>i64 (qc y.1 y.2)}
def qH:aR:={Y:=aj×aj,pre:=fun _=>True,args:=fun y=>[.agg y.1.enc, .agg y.2.enc],res:=fun y=>i64 (je y.1 y.2)}
def yG:aR:={Y:=aj×aj,pre:=fun _=>True,args:=fun y=>[.agg y.1.enc, .agg y.2.enc],res:=fun y=> .bool (bl y.1 y.2)}
def yo:aR:={Y:=di×di,pre:=fun _=>True,args:=fun y=>[.agg y.1.enc, .agg y.2.enc],res:=fun y=>i64 (tx y.1 y.2)}
def xD:aR:={Y:=di×di,pre:=fun _=>True,args:=fun y=>[.agg y.1.enc, .agg y.2.enc],res:=fun y=> .bool (sC y.1 y.2)}
noncomputable def qM (f:FuncId):Option aR:=bif Nat.beq f oH then some xE else yL f
noncomputable def qm (f:FuncId):Option aR:=bif Nat.beq f oJ then some yF else bif Nat.beq f oI then some yo else qM f
noncomputable def tQ (f:FuncId):Option aR:=bif Nat.beq f oO then some qH else bif Nat.beq f oK then some xD else qm f
noncomputable def mK (f:FuncId):Option aR:=bif Nat.beq f oL then some yG else tQ f
theorem HH {a b:Int}:hU a b<0↔a<0\/(a=0/\b<0):=by
 unfold hU;by_cases h:a=0
 . simp[h]
 . simp[h]
theorem Hv {a b:Int}:hU a b=0↔a=0/\b=0:=by
 unfold hU;by_cases h:a=0<;>simp[h]
theorem nz (x y:aj):bl x y=true↔x.dev<y.dev\/(x.dev=y.dev/\(x.inc<y.inc\/(x.inc=y.inc/\x.seq<y.seq))):=by
 unfold bl je qc;simp only[Ao,HH,Hv,sm,r9];constructor
 . rintro((h|⟨h1,h2⟩)|⟨⟨h1,h2⟩,h3⟩)
   . exact .inl h
   . exact .inr ⟨h1, .inl h2⟩
   . exact .inr ⟨h1, .inr ⟨h2,h3⟩⟩
 . rintro(h|⟨h1,h2|⟨h2,h3⟩⟩)
   . exact .inl (.inl h)
   . exact .inl (.inr ⟨h1,h2⟩)
   . exact .inr ⟨⟨h1,h2⟩,h3⟩
theorem aj.ext' {x y:aj} (h1:x.dev=y.dev) (h2:x.inc=y.inc) (h3:x.seq=y.seq):x=y:=by cases x;cases y;simp_all
theorem ru (x:aj):bl x x=false:=by
 rw[Ar,BS,nz];omega
theorem rJ {x y z:aj} (h1:bl x y=true) (h2:bl y z=true):bl x z=true:=by
 rw[nz]at*;omega
theorem u6 (x y:aj):bl x y=true\/x=y\/bl y x=true:=by
 simp only[nz];by_cases h:x.dev=y.dev/\x.inc=y.inc/\x.seq=y.seq
 . exact .inr (.inl (aj.ext' h.1 h.2.1 h.2.2))
 . have:x.dev<y.dev\/y.dev<x.dev\/(x.dev=y.dev/\(x.inc<y.inc\/y.inc<x.inc\/(x.inc=y.inc/\(x.seq<y.seq\/y.seq<x.seq)))):=by omega
   omega
theorem FZ:CO oH xE:=cZ (cfg:=fun y=>cf cH (dA y)) cB (fun _=>rfl) (fun _=>wG) (n:=400) (by
 rintro⟨a,b⟩ -
 repeat' (first|exact trivial|exact rfl|((conv=>whnf);first|(apply cm<;>intro)|apply And.intro))
 all_goals (simp_all[within]))
theorem sr:∀g C,qM g=some C->CO g C:=dw FZ GC
theorem ID:CO oJ yF:=cZ (cfg:=fun y=>cf qM (dA y)) cB (fun _=>rfl) (fun _=>sr) (n:=400) (by
 rintro⟨⟨a,b,c⟩,d,e,f⟩ -
 (conv=>whnf)
 refine⟨(a,d),?_⟩
 repeat ((conv=>whnf);first|refine⟨rfl,?_⟩|refine⟨trivial,?_⟩)
 (conv=>whnf)
 refine⟨(b,e),?_⟩
 repeat' (first|exact trivial|exact rfl|((conv=>whnf);first|(apply cm<;>intro)|apply And.intro))
 all_goals (simp_all[qc,hU]))
theorem H5:CO oI yo:=cZ (cfg:=fun y=>cf qM (dA y)) cB (fun _=>rfl) (fun _=>sr) (n:=400) (by
 rintro⟨⟨a,b,c⟩,d,e,f⟩ -
 (conv=>whnf)
 refine⟨(a,d),?_⟩
 repeat ((conv=>whnf);first|refine⟨rfl,?_⟩|refine⟨trivial,?_⟩)
 (conv=>whnf)
 refine⟨(b,e),?_⟩
 repeat' (first|exact trivial|exact rfl|((conv=>whnf);first|(apply cm<;>intro)|apply And.intro))
 all_goals (simp_all[tx,hU]))
theorem sx:∀g C,qm g=some C->CO g C:=dw ID (dw H5 sr)
theorem H6:CO oO qH:=cZ (cfg:=fun y=>cf qm (dA y)) cB (fun _=>rfl) (fun _=>sx) (n:=400) (by
 rintro⟨x,y⟩ -
 (conv=>whnf)
 refine⟨(x,y),?_⟩
 repeat ((conv=>whnf);first|refine⟨rfl,?_⟩|refine⟨trivial,?_⟩)
 (conv=>whnf)
 refine⟨(x.seq,y.seq),?_⟩
 repeat' (first|exact trivial|exact rfl|((conv=>whnf);first|(apply cm<;>intro)|apply And.intro))
 all_goals (simp_all[je,hU]))
theorem Hu:CO oK xD:=cZ (cfg:=fun y=>cf qm (dA y)) cB (fun _=>rfl) (fun _=>sx) (n:=400) (by
 rintro⟨x,y⟩ -
 (conv=>whnf)
 refine⟨(x,y),?_⟩
 repeat ((conv=>whnf);first|refine⟨rfl,?_⟩|refine⟨trivial,?_⟩)
 (conv=>whnf)
 refine⟨(x.dev,y.dev),?_⟩
 repeat' (first|exact trivial|exact rfl|((conv=>whnf);first|(apply cm<;>intro)|apply And.intro))
 all_goals (simp_all[sC,hU,de]))
theorem wZ:∀g C,tQ g=some C->CO g C:=dw H6 (dw Hu sx)
theorem HX:CO oL yG:=cZ (cfg:=fun y=>cf tQ (dA y)) cB (fun _=>rfl) (fun _=>wZ) (n:=400) (by
 rintro⟨⟨a,b,c⟩,d,e,f⟩ -
 repeat' (first|exact trivial|exact rfl|((conv=>whnf);first|(apply cm<;>intro)|apply And.intro))
 all_goals (rw[A3,nz,de,Ao];simp_all<;>omega))
theorem nP:∀g C,mK g=some C->CO g C:=dw HX wZ
end
theorem ks (a b:ad):eS a b=true↔a.ab.access<b.ab.access\/(a.ab.access=b.ab.access/\(a.ab.aq<b.ab.aq\/(a.ab.aq=b.ab.aq/\eH a.key b.key=true))):=by
 unfold eS gn;have h1:=r9 a.ab.access b.ab.access;have h2:=sm a.ab.access b.ab.access;have h3:=r9 a.ab.aq b.ab.aq;have h4:=sm a.ab.aq b.ab.aq;generalize bK a.ab.access b.ab.access=n at*
 generalize bK a.ab.aq b.ab.aq=m at*
 simp only[Ao];by_cases e1:n=0
 . have a1:=h1.1 e1;by_cases e2:m=0
   . have a2:=h3.1 e2;by_cases hk:a.key=b.key
     . simp[e1,e2,hk,nD,a1,a2]
     . cases hl:eH a.key b.key<;>simp[e1,e2,hk,a1,a2]
   . have a2:a.ab.aq≠b.ab.aq:=fun h=>e2 (h3.2 h)
     simp[e1,e2,a1,a2,h4]
 . have a1:a.ab.access≠b.ab.access:=fun h=>e1 (h1.2 h)
   simp[e1,a1,h2]
theorem uQ (a:ad):eS a a=false:=by
 apply Ar.2;intro h;rw[ks,nD]at h;simp at h
theorem rH {a b c:ad} (h1:eS a b=true) (h2:eS b c=true):eS a c=true:=by
 rw[ks]at*;have ht:=zV a.key b.key c.key;rcases h1 with h1|⟨h1,h1'|⟨h1',h1''⟩⟩<;>rcases h2 with h2|⟨h2,h2'|⟨h2',h2''⟩⟩
 . left;omega
 . left;omega
 . left;omega
 . left;omega
 . right;exact⟨by omega, .inl (by omega)⟩
 . right;exact⟨by omega, .inl (by omega)⟩
 . left;omega
 . right;exact⟨by omega, .inl (by omega)⟩
 . right;exact⟨by omega, .inr ⟨by omega,ht h1'' h2''⟩⟩
theorem vL {a b:ad} (h1:eS a b=false) (h2:eS b a=false):a.key=b.key:=by
 have h1:=Ar.1 h1;have h2:=Ar.1 h2;rw[BS,ks]at h1 h2;rcases CJ a.key b.key with hk|hk|hk
 . exfalso;apply h1;rcases Dy a.ab.access b.ab.access with e|e|e
   . exact .inl e
   . refine .inr ⟨e,?_⟩;rcases Dy a.ab.aq b.ab.aq with g|g|g
     . exact .inl g
     . exact .inr ⟨g,hk⟩
     . exact absurd (.inr ⟨e.symm, .inl g⟩) h2
   . exact absurd (.inl e) h2
 . exact hk
 . exfalso;apply h2;rcases Dy b.ab.access a.ab.access with e|e|e
   . exact .inl e
   . refine .inr ⟨e,?_⟩;rcases Dy b.ab.aq a.ab.aq with g|g|g
     . exact .inl g
     . exact .inr ⟨g,hk⟩
     . exact absurd (.inr ⟨e.symm, .inl g⟩) h1
   . exact absurd (.inl e) h1
theorem zZ {a b c:ad} (h1:eS a b=false) (h2:eS b c=false):eS a c=false:=by
 apply Ar.2;intro h
 cases hb:eS b a
 . have e:=vL h1 hb
   cases hc:eS c b
   . have e2:=vL h2 hc;have h1':=Ar.1 h1;have h2':=Ar.1 h2;have hb':=Ar.1 hb;have hc':=Ar.1 hc;rw[BS,ks]at h1' h2' hb' hc';rw[ks,e,e2,nD]at h;simp only[e,e2,nD,Ah,and_false,DY]at h1' h2' hb' hc' h;omega
   . have:=rH hc (?_:eS b c=true)
     . rw[uQ]at this;cases this
     . rw[h2];exfalso;have h1':=Ar.1 h1;have hb':=Ar.1 hb;rw[BS,ks]at h1' hb';rw[ks]at h hc;simp only[e,nD,Ah,and_false,DY]at h1' hb';have e1:a.ab.access=b.ab.access:=by omega
       have e2:a.ab.aq=b.ab.aq:=by omega
       rw[e1,e2,e]at h;have h:=(ks b c).2 h;rw[h2]at h
       cases h
 . have:=rH hb h;rw[h2]at this
   cases this
def mb (l:List ad) (d:Bs) (all:Bool):List ad:=l.filter fun x=>all||decide (x.key.domain=d)
abbrev lC (P:ad->Bool) (b:Option ad) (x:ad):Option ad:=if P x then(match b with|none=>some x|some y=>if eS x y then some x else some y)else b
theorem vX (P:ad->Bool):∀(l:List ad) (b:Option ad),l.foldl (lC P) b=none->b=none/\ ∀x∈l,P x=false
 |[],b,h=>⟨h,by simp⟩
 |x::l,b,h=>by
  obtain⟨h1,h2⟩:=vX P l _ h;by_cases hx:P x=true
  . exfalso;simp only[lC,hx,AK]at h1
    cases b with
    |none=>cases h1
    |some y=>by_cases hs:eS x y=true<;>simp[hs]at h1
  . simp only[lC,hx,Ax]at h1;exact⟨by simpa using h1,by simpa [hx]using h2⟩
theorem vY (P:ad->Bool):∀(l:List ad) (b:Option ad) (z:ad),l.foldl (lC P) b=some z->(b=some z\/(z∈l/\P z=true))/\(∀y,b=some y->eS y z=false)/\ ∀x∈l,P x=true->eS x z=false
 |[],b,z,h=>⟨.inl h,fun y e=>by have h:b=some z:=h;rw[h]at e;cases e;exact uQ _,by simp⟩
 | x :: l,b,z,h=>by
  obtain⟨i1,i2,i3⟩:=vY P l _ z h;have hmem:z∈l/\P z=true->z∈x::l/\P z=true:=fun h=>⟨Ap _ h.1,h.2⟩
  by_cases hx:P x=true
  . have all:eS x z=false->∀w∈x::l,P w=true->eS w z=false:=by
      intro h0 w hw hp;rcases An.1 hw with rfl|hw
      . exact h0
      . exact i3 w hw hp
    simp only[lC,hx,AK]at i1 i2
    cases b with
    | none=>
      simp only at i1 i2;refine⟨.inr ?_,fun y e=>(nomatch e),all (i2 _ rfl)⟩;rcases i1 with e|h1
      . cases e;exact⟨Al,hx⟩
      . exact hmem h1
    | some y0=>
      by_cases hs:eS x y0=true
      . simp only[hs,AK]at i1 i2;refine⟨.inr ?_,fun y e=>?_,all (i2 _ rfl)⟩
        . rcases i1 with e|h1
          . cases e;exact⟨Al,hx⟩
          . exact hmem h1
        . cases e;apply Ar.2;intro h2;have:=rH hs h2;rw[i2 _ rfl]at this
          cases this
      . have hs:=Ar.2 hs;simp only[hs,Ah,Ax]at i1 i2;exact⟨i1.imp id hmem,i2,all (zZ hs (i2 _ rfl))⟩
  . simp only[lC,hx,Ax]at i1 i2;refine⟨i1.imp id hmem,i2,fun w hw hp=>?_⟩;rcases An.1 hw with rfl|hw
    . exact absurd hp hx
    . exact i3 w hw hp
theorem wR (l:List ad) (d:Bs) (all:Bool):qE l d all=l.foldl (lC fun x=>all||decide (x.key.domain=d)) none:=rfl
theorem CB {l:List ad} {d:Bs} {all:Bool} (h:mb l d all≠[]):∃b∈mb l d all,pG l d all=b.key/\qE l d all=some b/\ ∀x∈mb l d all,eS x b=false:=by
 cases hb:qE l d all with
 |none=>
  exfalso;have:=(vX _ l none (by rw[<-wR];exact hb)).2;apply h;unfold mb;rw[Es];intro x hx;rw[this x hx];simp
 |some b=>
  obtain⟨i1,_,i3⟩:=vY _ l none b (by rw[<-wR];exact hb);rcases i1 with e|⟨i1,i2⟩
  . cases e
  . refine⟨b,AL.2 ⟨i1,i2⟩,by simp only[pG,hb],rfl,fun x hx=>?_⟩;obtain⟨h1,h2⟩:=AL.1 hx;exact i3 x h1 h2
theorem FH {l:List ad} {x:ad} (h:x∈l):(mw l x.key).length<l.length:=by
 unfold mw;apply Nat.lt_of_le_of_ne (Dj _ _);intro e;have:=List.length_filter_eq_length_iff.1 e x h;simp at this
theorem FF {l:List ad} {d:Bs} {all:Bool} {m:Nat} (h:m<(mb l d all).length):(mw l (pG l d all)).length<l.length:=by
 obtain⟨b,hb,he,_⟩:=CB (l:=l) (d:=d) (all:=all) (by intro e;rw[e]at h;simp at h);rw[he];exact FH (AL.1 hb).1
def tT (m:Nat) (d:Bs) (all:Bool) (l:List ad):List ad:=
 if h:m<(mb l d all).length then tT m d all (mw l (pG l d all))else l
 termination_by l.length
 decreasing_by exact FF h
abbrev Jw (m:Nat) (l:List ad):List ad:=tT m [] true l
def yP (l:List ad) (now:Int):List ad:=l.filter fun x=> !mP x.ab now
def J4 (cap:Nat) (l:List ad) (ds:List Bs):List ad:=ds.foldl (fun b d=>tT cap d false b) l
def Jp (cap total:Nat) (l:List ad) (now:Int):List ad:=Jw total (J4 cap (yP l now) (GH (yP l now)))
def Jo (l k:List ad):List ad:=l.filter fun x=>decide (x∉k)
section
variable [Inhabited aE]
abbrev qY (c:bE):Nat:=c.domain.toNat
abbrev tV (c:bE):Nat:=c.total.toNat
def JM (l:List ad):Prop:=∀x∈l,x.key.domain.length<=1000000
def ri (y:bE×List ad×Int):List ad×Int:=if gP y.1≠0 then([],gP y.1)else if jK y.2.1 then(Jp (qY y.1) (tV y.1) y.2.1 y.2.2,0)else([],6)
def yX (y:bE×List ad×Int):List ad×Int:=if(ri y).2≠0 then([],(ri y).2)else(Jo y.2.1 (ri y).1,0)
end
section
variable [Inhabited aE]
end
section
variable [Inhabited aE]
theorem _root_.Go.Proofs.aj.ext_iff {x y:aj}:x=y↔x.dev=y.dev/\x.inc=y.inc/\x.seq=y.seq:=⟨fun h=>by subst h;exact⟨rfl,rfl,rfl⟩,fun h=>aj.ext' h.1 h.2.1 h.2.2⟩
theorem pW (a b:aj):(a.dev==b.dev&&(a.inc==b.inc&&true)&&(a.seq==b.seq&&true))=decide (a=b):=by
 rw[A3];simp[aj.ext_iff,and_assoc]
structure aK where
 dot:aj
 dG:di
 kind:Int
 key:bm
 ab:cy
 over:List aj
deriving DecidableEq,Inhabited
def cq (l:List aj):SV:= .aD aj l aj.enc
def aK.enc (x:aK):List SV:=[.int .i64 x.dot.dev, .int .i64 x.dot.inc, .int .i64 x.dot.seq, .int .i64 x.dG.wall, .int .i64 x.dG.count, .int .i64 x.dG.dev, .int .i64 x.kind, .str x.key.name, .str x.key.domain, .str x.key.path,
 .str x.ab.value, .bool x.ab.aY, .bool x.ab.bz, .bool x.ab.aZ, .bool x.ab.persistent, .int .i64 x.ab.bu, .int .i64 x.ab.aq, .int .i64 x.ab.access,cq x.over]
def aK.item (x:aK):ad:=⟨x.key,x.ab⟩
structure bN where
 ctx:List aj
 kept:List aK
 dead:List aj
def jt (l:List aK):SV:= .aD aK l aK.enc
def bN.enc (x:bN):List SV:=[cq x.ctx,jt x.kept,cq x.dead]
noncomputable def yU:TypeId->Option View:=fun t=>bif Nat.beq t Ty.string then some ⟨Bs,dW⟩else bif Nat.beq t l7 then some ⟨ad,ad.enc⟩else bif Nat.beq t Ty.jl then some ⟨aj,aj.enc⟩else bif Nat.beq t Kp then some ⟨aj,aj.enc⟩else bif Nat.beq t Ko then some ⟨aK,aK.enc⟩else none
noncomputable def fk (cJ:FuncId->Option aR) (iW:FuncId->Nat->Option bh):eZ:={tab:=jU,view:=yU,cJ,iW}
section
variable {α:Type} [DecidableEq α] (less:α->α->Bool)
def ch (l:List α) (d:α):Nat:=(l.takeWhile fun x=>less x d).length
def dN (l:List α) (d:α):List α:=if l[ch less l d]? =some d then l else l.take (ch less l d)++d::l.drop (ch less l d)
def bA (l:List α):List α:=l.foldl (dN less) []
variable {less}
omit [DecidableEq α] in
theorem xO (L:List α) (d:α):ch less L d<=L.length:=(DH _).length_le
omit [DecidableEq α] in
theorem F1 {L:List α} {d:α} {k:Nat} (hk:k<=ch less L d) (h:k<L.length) (hl:less L[k] d=true):k+1<=ch less L d:=by
 apply BJ;intro hn;have e:ch less L d=k:=by omega
 unfold ch at e;have:=yS (p:=fun x=>less x d) (l:=L) (by omega);simp only[e]at this;rw[hl]at this
 cases this
omit [DecidableEq α] in
theorem F2 {L:List α} {d:α} {k:Nat} (hk:k<=ch less L d) (h:k<L.length) (hl:less L[k] d=false):k=ch less L d:=by
 apply BJ;intro hn;obtain⟨h1,h2⟩:=yB (p:=fun x=>less x d) (l:=L) (j:=k) (by show k<ch less L d;omega);rw[hl]at h2
 cases h2
theorem Hd (L:List α) (d:α):(dN less L d).length<=L.length+1:=by
 unfold dN;have:=xO (less:=less) L d;split
 . omega
 . simp;omega
theorem px:∀(l a:List α),(l.foldl (dN less) a).length<=a.length+l.length
 |[],a=>by simp
 |x::l,a=>by
  have h1:=px l (dN less a x);have h2:=Hd (less:=less) a x;simp only[Dp,AR];omega
end
def mY (l:List aj):Prop:=l.length<=1000000
def yr:aR:={Y:=List aj×List aj,pre:=fun y=>mY y.1/\mY y.2,args:=fun y=>[cq y.1,cq y.2],res:=fun y=> .bool (decide (y.1=y.2))}
def I8 (y:List aj×List aj):bh:={α:=Nat,ok:=fun i=>i<=y.1.length/\y.1.length=y.2.length/\y.1.take i=y.2.take i,μ:=fun i=>y.1.length - i,bI:=[],bJ:=fun i=>[(0,cq y.1),(1,cq y.2),(5,i64 i)],cU:=fun _=>[]}
def x8:aR:={Y:=List aj,pre:=fun y=>y.length<=300000,args:=fun y=>[cq y],res:=fun y=>cq (bA bl y)}
def Ja (y:List aj):bh:={α:=Nat,ok:=fun i=>i<=y.length,μ:=fun i=>y.length - i,bI:=[],bJ:=fun i=>[(0,cq y),(3,cq (bA bl (y.take i))),(4,i64 i)],cU:=fun _=>[],dy:=[3]}
def Ia (y:List aj):bh:={α:=Nat×Nat,ok:=fun x=>∃h:x.1<y.length,x.2<=ch bl (bA bl (y.take x.1)) y[x.1],μ:=fun x=>(bA bl (y.take x.1)).length - x.2,bI:=[],bJ:=fun x=>[(0,cq y),(3,cq (bA bl (y.take x.1))),(4,i64 x.1),(5,i64 x.2)],cU:=fun _=>[],link:=some fun a b=>b.1=a.1}
theorem HE:CO ka x8:=cZ (cfg:=fun y=>fk mK (Ic ka 6 (Ia y) (dO ka 3 (Ja y)))) cB (fun _=>rfl) (fun _=>nP) (n:=600) (by
 intro (l:List aj) hpre;have hpre:l.length<=300000:=hpre
 (conv=>whnf)
 refine⟨⟨(0:Nat),Bl _,?_⟩,?_⟩
 . repeat' (first|exact trivial|exact rfl|((conv=>whnf);first|(apply cm<;>intro)|apply And.intro))
 intro (x:Nat) hx
 (conv=>whnf)
 refine cm (fun hlt=>?_) fun hge=>?_
 . have hlt':x<l.length:=dB hlt
   (conv=>whnf)
   refine⟨((x,0):Nat×Nat),⟨((x,0):Nat×Nat),⟨⟨hlt',Bl _⟩,rfl⟩,?_⟩,?_⟩
   . repeat' (first|exact trivial|exact rfl|((conv=>whnf);first|(apply cm<;>intro)|apply And.intro))
   rintro⟨x1,k⟩ ⟨⟨h1,h2⟩,hx1⟩;have hx1:x1=x:=hx1;subst hx1;have hn:bA bl (l.take (x1+1))=dN bl (bA bl (l.take x1)) l[x1]:=E5 (dN bl) ([]:List aj) hlt';have hlen:(bA bl (l.take x1)).length<=x1:=by have:=px (less:=bl) (l.take x1) [];unfold bA;simp at this⊢;omega
   have hk:k<=ch bl (bA bl (l.take x1)) l[x1]:=h2;have hkp:=xO (less:=bl) (bA bl (l.take x1)) l[x1];have hkl:k<=(bA bl (l.take x1)).length:=by omega
   have hmu:l.length - (x1+1)<l.length - x1:=by omega
   (conv=>whnf)
   refine cm (fun hlt2=>?_) fun hge2=>?_
   . have hlt2':k<(bA bl (l.take x1)).length:=dB hlt2
     (conv=>whnf)
     refine aN.2 ⟨_,eA hlt2',?_⟩
     (conv=>whnf)
     refine aN.2 ⟨_,eA hlt',?_⟩
     (conv=>whnf)
     refine⟨((bA bl (l.take x1))[k],l[x1]),?_⟩
     repeat ((conv=>whnf);first|refine⟨rfl,?_⟩|refine⟨trivial,?_⟩)
     (conv=>whnf)
     refine cm (fun hl=>?_) fun hl=>?_
     . have hl:bl (bA bl (l.take x1))[k] l[x1]=true:=hl
       (conv=>whnf)
       refine aB.2 ⟨eG k (by omega),?_⟩
       (conv=>whnf)
       refine⟨((x1,k+1):Nat×Nat),⟨⟨hlt',F1 hk hlt2' hl⟩,rfl⟩,by show(bA bl (l.take x1)).length - (k+1)<(bA bl (l.take x1)).length - k;omega,?_⟩
       repeat' (first|exact trivial|exact rfl|((conv=>whnf);first|(apply cm<;>intro)|apply And.intro))
     . have hl:bl (bA bl (l.take x1))[k] l[x1]=false:=hl;have hkk:k=ch bl (bA bl (l.take x1)) l[x1]:=F2 hk hlt2' hl
       (conv=>whnf)
       refine ak.2 ⟨fun he=>absurd he (by simp;omega),fun he=>?_⟩
       (conv=>whnf)
       refine aN.2 ⟨_,eA hlt2',?_⟩
       (conv=>whnf)
       refine aN.2 ⟨_,eA hlt',?_⟩
       (conv=>whnf)
       refine cm (fun hne=>?_) fun hne=>?_
       . repeat (first|((conv=>whnf);refine⟨fun _=>rfl,?_⟩)|((conv=>whnf);refine⟨fun _=>⟨rfl,rfl⟩,?_⟩)|((conv=>whnf);refine aB.2 ⟨by(simp only[Ab,Be,BG,AR,Bf,BZ,Bt];omega),?_⟩)|((conv=>whnf);refine aB.2 ⟨eG _ (by omega),?_⟩)|((conv=>whnf);refine aN.2 ⟨_,eA (by assumption),?_⟩)|((conv=>whnf);refine⟨_,rfl,?_⟩))
         refine⟨(x1+1:Nat),hlt',hmu,?_⟩
         repeat' (first|exact trivial|exact rfl|((conv=>whnf);first|(apply cm<;>intro)|apply And.intro))
         all_goals ((conv=>whnf);rw[hn];unfold dN;rw[<-hkk,Ae (by rw[Af hlt2'];simp only[AB,pW]at hne;simpa using hne)];first|(simp;done)|(simp[cq];done)|(simp;rfl))
       . (conv=>whnf)
         refine aB.2 ⟨eG x1 (by omega),?_⟩
         (conv=>whnf)
         refine⟨(x1+1:Nat),hlt',hmu,?_⟩
         repeat' (first|exact trivial|exact rfl|((conv=>whnf);first|(apply cm<;>intro)|apply And.intro))
         all_goals ((conv=>whnf);rw[hn];unfold dN;rw[<-hkk,Ai (by rw[Af hlt2'];simp only[AB,pW]at hne;simpa using hne)];try rfl)
   . have hge2':(bA bl (l.take x1)).length<=k:=od hge2;have hkk:k=ch bl (bA bl (l.take x1)) l[x1]:=by omega
     (conv=>whnf)
     refine ak.2 ⟨fun he=>?_,fun he=>absurd he (by simp;omega)⟩
     repeat (first|((conv=>whnf);refine⟨fun _=>rfl,?_⟩)|((conv=>whnf);refine⟨fun _=>⟨rfl,rfl⟩,?_⟩)|((conv=>whnf);refine aB.2 ⟨by(simp only[Ab,Be,BG,AR,Bf,BZ,Bt];omega),?_⟩)|((conv=>whnf);refine aB.2 ⟨eG _ (by omega),?_⟩)|((conv=>whnf);refine aN.2 ⟨_,eA (by assumption),?_⟩)|((conv=>whnf);refine⟨_,rfl,?_⟩))
     refine⟨(x1+1:Nat),hlt',hmu,?_⟩
     repeat' (first|exact trivial|exact rfl|((conv=>whnf);first|(apply cm<;>intro)|apply And.intro))
     all_goals ((conv=>whnf);rw[hn];unfold dN;rw[<-hkk,Ae (by rw[Bh hge2'];simp)];first|(simp;done)|(simp[cq];done)|(simp;rfl))
 . (conv=>whnf)
   refine⟨by rw[FV (iA hge)],?_⟩
   (conv=>whnf)
   trivial)
theorem Hz:CO lY yr:=cZ (cfg:=fun y=>fk mK (dO lY 4 (I8 y))) cB (fun _=>rfl) (fun _=>nP) (n:=600) (by
 rintro⟨l,m⟩ ⟨(hl:l.length<=1000000),(hm:m.length<=1000000)⟩
 (conv=>whnf)
 refine cm (fun h=>?_) fun h=>?_
 . (conv=>whnf)
   refine⟨(BL fun e=>?_).symm,?_⟩
   . have e:l=m:=e;subst e;simp at h
   . repeat' (first|exact trivial|exact rfl|((conv=>whnf);first|(apply cm<;>intro)|apply And.intro))
 have hlm:l.length=m.length:=by
   have h:(!((Int.ofNat l.length)==(Int.ofNat m.length)))=false:=h;simp at h;omega
 (conv=>whnf)
 refine⟨⟨(0:Nat),⟨Bl _,hlm,rfl⟩,?_⟩,?_⟩
 . repeat' (first|exact trivial|exact rfl|((conv=>whnf);first|(apply cm<;>intro)|apply And.intro))
 intro (x:Nat) hx;obtain⟨hx, -,ht⟩:=hx;have ht:l.take x=m.take x:=ht
 (conv=>whnf)
 refine cm (fun hlt=>?_) fun hge=>?_
 . have hlt':x<l.length:=dB hlt;have hlt2:x<m.length:=by omega
   (conv=>whnf)
   refine aN.2 ⟨_,eA hlt',?_⟩
   (conv=>whnf)
   refine aN.2 ⟨_,eA hlt2,?_⟩
   (conv=>whnf)
   refine cm (fun h=>?_) fun h=>?_
   . have h:(!decide (l[x]=m[x]))=true:=by rw[<-pW];exact h
     (conv=>whnf)
     refine⟨(BL fun e=>?_).symm,?_⟩
     . have e:l=m:=e;subst e;simp at h
     . repeat' (first|exact trivial|exact rfl|((conv=>whnf);first|(apply cm<;>intro)|apply And.intro))
   . have h:(!decide (l[x]=m[x]))=false:=by rw[<-pW];exact h
     (conv=>whnf)
     refine aB.2 ⟨eG x (by omega),?_⟩
     (conv=>whnf)
     refine⟨(x+1:Nat),⟨hlt',hlm,?_⟩,by show l.length - (x+1)<l.length - x;omega,?_⟩
     . show l.take (x+1)=m.take (x+1)
       have h:l[x]=m[x]:=by simpa using h
       rw[AP hlt',AP hlt2,ht,h]
     . repeat' (first|exact trivial|exact rfl|((conv=>whnf);first|(apply cm<;>intro)|apply And.intro))
 . have hge':l.length<=x:=od hge
   (conv=>whnf)
   refine⟨(De ?_).symm,?_⟩
   . rw[A2 hge',A2 (by omega)]at ht;exact ht
   . repeat' (first|exact trivial|exact rfl|((conv=>whnf);first|(apply cm<;>intro)|apply And.intro)))
noncomputable def tR (f:FuncId):Option aR:=bif Nat.beq f ka then some x8 else bif Nat.beq f lY then some yr else mK f
theorem xa:∀g C,tR g=some C->CO g C:=dw HE (dw Hz nP)
end
section
variable [Inhabited aE]
end
section
variable [Inhabited aE]
end
end Go.Proofs
