/- Part 3: an evaluator, proved sound, and its use at this seat; no condition. -/
import Derived.Calls
import Derived.KernelRfl
import Derived.Lib.Bytealg
import Derived.DataReads
import Derived.ChangeArms
import Derived.Test.YtmfohfbdddlilaaGreatP1
import Derived.Test.YtmfohfbdddlilaaGreatP2
set_option linter.unusedSimpArgs false
set_option linter.unusedVariables false
set_option linter.unusedSectionVars false
set_option linter.deprecated false
set_option maxRecDepth 100000
set_option maxHeartbeats 4000000
namespace Go.Sy
open Go.Am Go.RowKit
section
universe u v
variable [Inhabited aF]
section
variable {P:Program} {tab:aZ} {cfg:iq} {ops:Array Oper} {nt:Nat} {rec:SM->(SV->St->Prop)->Prop}
theorem LH {p:Nat}:∀{l:List Ev},p∈jH l->∃e∈l,e.id=p:=by
 intro l;induction l with
 |nil=>intro h;cases h
 | cons e l ih=>
  intro h
  cases e with
  |kill b=>
   rcases Aj.1 h with rfl|h
   . exact⟨_,Ao,rfl⟩
   . obtain⟨e,h1,h2⟩:=ih h;exact⟨e,An _ h1,h2⟩
  |mod b=>
   rcases Aj.1 h with rfl|h
   . exact⟨_,Ao,rfl⟩
   . obtain⟨e,h1,h2⟩:=ih h;exact⟨e,An _ h1,h2⟩
  |eW b X L enc=>obtain⟨e,h1,h2⟩:=ih h;exact⟨e,An _ h1,h2⟩
theorem Ia {log:List Ev} {b:Nat} (h:(!(cq b (log.map Ev.id)))=true):∀e∈log,e.id≠b:=by
 intro e he hb;have:cq b (log.map Ev.id)=true:=cQ.2 (Ar.2 ⟨e,he,hb⟩);rw[this]at h;cases h
theorem HS.bare {C C':Cx} {h h':SH} {a h1:AH} {log:List Ev} {hid hidA:List (Nat×Nat)} (H:HS tab C h a) (hal:j4 C h hid hidA) (hT:Tr C log C') (H':HS tab C' h' h1) (hG:Grow (gV a hidA) h1) (hm:∀x∈hid,∀e∈log,e.id≠x.2):
   HS tab C' (kq h' h log hid) (ik h1 a hidA)/\(∀i b,h1.get i=some b->(ik h1 a hidA).get i=h1.get i)/\(∀y∈hidA,h1.get y.2=none)/\(∀x∈hid,∀o I,h.get x.2=some o->C.ρ x.2=some I->I.cap.isSome->(ik h1 a hidA).get I.β=a.get I.β/\ ∃o',(kq h' h log hid).get x.2=some o'/\C'.ρ x.2=some I):=by
 have hlt:∀y∈hidA,y.2<a.next:=by
   intro y hy;obtain⟨x,hx,o,I,g1,g2,g3,g4⟩:=hal.right y hy;obtain⟨b,hb⟩:=(H.at_ g1 g2).live g3;rw[<-g4];exact H.wf _ _ hb
 have hnone:∀y∈hidA,h1.get y.2=none:=by
   intro y hy
   cases hz:h1.get y.2 with
   |none=>rfl
   | some b=>
     rcases hG.old _ _ hz with⟨o0,h0⟩|hge
     . rw[gR,if_pos ⟨y,hy,rfl⟩]at h0;cases h0
     . rw[iH]at hge;have:=hlt y hy;omega
 have hlive:∀i b,h1.get i=some b->(ik h1 a hidA).get i=h1.get i:=by
   intro i b hi;rw[mU,if_neg];rintro⟨y,hy,rfl⟩;rw[hnone y hy]at hi;cases hi
 have hhid:∀x∈hid,∀o I,h.get x.2=some o->C.ρ x.2=some I->I.cap.isSome->(ik h1 a hidA).get I.β=a.get I.β/\h1.get I.β=none/\ ∃o',(kq h' h log hid).get x.2=some o'/\C'.ρ x.2=some I/\dV tab C' I o' (ik h1 a hidA):=by
   intro x hx o I ho hI hc;obtain⟨o1,I1,g1,g2,g3,y,hy,g4⟩:=hal.left x hx;rw[hI]at g2;cases g2;have e1:(ik h1 a hidA).get I.β=a.get I.β:=by rw[mU,if_pos ⟨y,hy,g4⟩]
   obtain⟨o',k1,k2⟩:=M3 o log;refine⟨e1,by rw[<-g4];exact hnone y hy,o',?_,hT.same hI hc (hm x hx),k2 hT e1 (H.at_ ho hI)⟩;rw[oH,if_pos ⟨x,hx,rfl⟩,ho];exact k1
 refine⟨⟨?_,?_,?_,?_,?_,?_⟩,hlive,hnone,fun x hx o I ho hI hc=>?_⟩
 . intro p o hp;rw[oH]at hp;split at hp
   . rename_i hex;obtain⟨x,hx,rfl⟩:=hex;obtain⟨o1,I1,g1,g2,g3,_⟩:=hal.left x hx;obtain⟨_,_,o',k1,k2,k3⟩:=hhid x hx o1 I1 g1 g2 g3;rw[oH,if_pos ⟨x,hx,rfl⟩,hp]at k1
     cases k1;exact⟨I1,k2,k3⟩
   . obtain⟨I,hI,ho⟩:=H'.obj p o hp;refine⟨I,hI,?_⟩;by_cases hc:I.cap.isSome
     . obtain⟨b,hb⟩:=ho.live hc;exact ho.congr (hlive _ _ hb)
     . cases o with
       |cells cs t=>exact absurd ho.1 hc
       |arr X L enc t=>
        obtain⟨g1,g2,g3,g4,g5⟩:=ho;refine⟨g1,g2,g3,g4,?_⟩
        cases hcap:I.cap with
        |none=>rw[hcap]at g5;exact g5
        |some c=>rw[hcap]at hc;simp at hc
 . have key:∀p q o' I J,(∃x∈hid,x.2=p)->h'.get q=some o'->C'.ρ p=some I->C'.ρ q=some J->I.cap.isSome->J.cap.isSome->I.β≠J.β:=by
     rintro p q o' I J ⟨x,hx,rfl⟩ hq hI hJ hc hc' e;obtain⟨o1,I1,g1,g2,g3,_⟩:=hal.left x hx;obtain⟨_,k0,_,_,k2,_⟩:=hhid x hx o1 I1 g1 g2 g3;rw[hI]at k2;cases k2;obtain⟨b,hb⟩:=(H'.at_ hq hJ).live hc';rw[<-e,k0]at hb;cases hb
   intro p q o o' I J hp hq hI hJ hc hc' e;rw[oH]at hp hq;split at hp
   . rename_i h3;split at hq
     . rename_i h4;obtain⟨x,hx,rfl⟩:=h3;obtain⟨z,hz,rfl⟩:=h4;obtain⟨o1,I1,g1,g2,g3,_⟩:=hal.left x hx;obtain⟨_,_,_,_,k2,_⟩:=hhid x hx o1 I1 g1 g2 g3;obtain⟨o2,I2,q1,q2,q3,_⟩:=hal.left z hz;obtain⟨_,_,_,_,k3,_⟩:=hhid z hz o2 I2 q1 q2 q3;rw[hI]at k2;cases k2;rw[hJ]at k3;cases k3;exact H.inj _ _ o1 o2 I J g1 q1 g2 q2 g3 q3 e
     . exact absurd e (key p q o' I J h3 hq hI hJ hc hc')
   . split at hq
     . rename_i h4;exact absurd e.symm (key q p o J I h4 hp hJ hI hc' hc)
     . exact H'.inj p q o o' I J hp hq hI hJ hc hc' e
 . intro i o hi;have:=H'.fz i o hi;rw[hlive i o this];exact this
 . intro p o I hp hI hc;rw[oH]at hp;split at hp
   . rename_i h3;obtain⟨x,hx,rfl⟩:=h3;obtain⟨o1,I1,g1,g2,g3,_⟩:=hal.left x hx;obtain⟨_,k0,_,_,k2,_⟩:=hhid x hx o1 I1 g1 g2 g3;rw[hI]at k2;cases k2
     cases hz:C'.Fz I.β with
     |none=>rfl
     | some b=>
       have:=H'.fz _ _ hz;rw[k0]at this;cases this
   . exact H'.dj p o I hp hI hc
 . intro p I hI;rw[Lx];exact H'.lt p I hI
 . intro i o hi;rw[qf];rw[mU]at hi;split at hi
   . have:=H.wf i o hi;have h2:=hG.next;rw[iH]at h2;omega
   . exact H'.wf i o hi
 . obtain⟨k1,_,o',k2,k3,_⟩:=hhid x hx o I ho hI hc;exact⟨k1,o',k2,k3⟩
end
end
section
universe u v
variable [Inhabited aF]
section
variable {P:Program} {tab:aZ} {cfg:iq} {ops:Array Oper} {nt:Nat} {rec:SM->(SV->St->Prop)->Prop}
theorem Qc (htab:cfg.tab=tab) (hrec:nu P tab rec) (hcon:∀g C,cfg.gm g=some C->cf P tab g C) {C:Cx} {d:SD} {e:DS} {i:Nat} {o:Oper} {K:SD->Prop} (h:ou cfg rec ops nt i o d K) (S:ja tab ops C d e):
   mE P tab ops nt i o e fun e'=>∃d' C' new,K d'/\ja tab ops C' d' e'/\Prog C d e new C' d' e':=by
 obtain⟨s,aE,reads,ax⟩:=d;obtain⟨hF,H,hanc,hal,hrd⟩:=S;simp only at hF H hanc hal hrd;subst hanc;simp only[ou]at h;obtain⟨hok,h⟩:=cH h;obtain⟨w,s1,h1,hw,hF1,eh,el⟩:=xx h hF;clear h;obtain⟨rfl,h1⟩:=cH h1;have h:=lr (lr (tW (lr h1)));clear h1;obtain⟨ts,hh,log⟩:=s1;simp only at h eh el hF1;subst eh;have halh:=hal.filter (fun j=> !(cq j (dS e.aE o)));generalize hhd:(ax.filter fun x=> !(cq x.1 (dS e.aE o)))=hid at h halh
 generalize hhA:(e.ax.filter fun x=> !(cq x.1 (dS e.aE o)))=hidA at halh
 have hnot:∀p o' I,s.h.get p=some o'->C.ρ p=some I->I.cap.isSome->(¬∃x∈hid,x.2=p)->¬∃y∈hidA,y.2=I.β:=by
   rintro p o' I hp hI hc hn ⟨y,hy,hyb⟩;obtain⟨x,hx,ox,Ix,x1,x2,x3,x4⟩:=halh.right y hy;exact hn ⟨x,hx,(H.inj p x.2 o' ox I Ix hp x1 hI x2 hc x3 (by rw[x4,hyb])).symm⟩
 have hfz:∀j ob,C.Fz j=some ob->¬∃y∈hidA,y.2=j:=by
   rintro j ob hj ⟨y,hy,rfl⟩;obtain⟨x,hx,ox,Ix,x1,x2,x3,x4⟩:=halh.right y hy;have:=H.dj x.2 ox Ix x1 x2 x3;rw[x4,hj]at this;cases this
 have Hh:HS tab C (nr s.h hid) (gV e.h hidA):=by
   refine H.part (Md _ _) (fun p o' hp=>?_) (fun j ob hj=>?_) (iH _ _) (fun j ob hj=>?_) (fun p o' I hp hI hc=>?_)
   . rw[tX]at hp;split at hp
     . cases hp
     . exact hp
   . rw[gR]at hj;split at hj
     . cases hj
     . exact hj
   . rw[gR,if_neg (hfz j ob hj)];exact H.fz j ob hj
   . rw[tX]at hp;split at hp
     . cases hp
     . rename_i hn;rw[gR,if_neg (hnot p o' I hp hI hc hn)]
 have heff:=Ho (s:=⟨ts,nr s.h hid,[]⟩) (ta:=e.ts) htab hrec hcon h hF1 Hh;refine⟨hok,hw,?_⟩;rw[hhA];refine heff.mono ?_;rintro v h1 hle ⟨sv,s',hk,⟨⟨C',new,e1,e2,e3,e4,e5,e6⟩,e7⟩⟩;obtain⟨ts',h',log'⟩:=s';simp only[BE]at e1 hk e4 e5;subst e1;obtain⟨hck,hk⟩:=cH hk;simp only[Ab,AE]at hck;obtain⟨hck1,hck2⟩:=hck;obtain⟨B1,B2,B3,B4⟩:=H.bare halh e2 e4 e7 (fun x hx=>Ia (hck2 x hx));obtain⟨s2,k1,k2,k3,k4⟩:=qz (s:=⟨ts',kq h' s.h log' hid,log++log'⟩) hk e5 e3;have hread:∀x∈e.reads.filter (fun x=> !(cq x.1 (dS e.aE o))),∃rs,(x.1,rs)∈reads.filter (fun x=> !(cq x.1 (dS e.aE o)))/\p7 tab ops C s.h e.h x rs/\
     ∀p∈rs,(∀e∈log',e.id≠p)/\(h'.get p).isSome/\ ¬∃y∈hid,y.2=p:=by
   intro x hx;obtain⟨hx1,hx2⟩:=AB.1 hx;obtain⟨rs,g1,g2⟩:=hrd x hx1;have hm:(x.1,rs)∈reads.filter (fun x=> !(cq x.1 (dS e.aE o))):=AB.2 ⟨g1,hx2⟩;refine⟨rs,hm,g2,fun p hp=>?_⟩;have h5:=hck1 _ hm p hp;refine⟨Ia h5.1.1,h5.1.2,?_⟩;rintro⟨y,hy,rfl⟩;have h6:=h5.2 y hy;simp at h6
 have hkeep:∀p o' I,s.h.get p=some o'->C.ρ p=some I->I.cap.isSome->(∀e∈log',e.id≠p)->(h'.get p).isSome->(¬∃y∈hid,y.2=p)->
     (ik h1 e.h hidA).get I.β=e.h.get I.β/\ ∃o',(kq h' s.h log' hid).get p=some o'/\C'.ρ p=some I:=by
   intro p o' I hp hI hc hm hs hn;obtain⟨k,_⟩:=e6 p o' I (by simp only;rw[tX,if_neg hn];exact hp) hI hc (fun hmm=>by
     obtain⟨e',he',hid'⟩:=LH hmm;exact hm e' he' hid')
   rw[gR,if_neg (hnot p o' I hp hI hc hn)]at k;obtain⟨o2,ho2⟩:=By.1 hs;refine⟨?_,o2,by rw[oH,if_neg hn];exact ho2,e2.same hI hc hm⟩;rw[mU,if_neg (hnot p o' I hp hI hc hn)];exact k
 have hstb:∀x∈e.reads.filter (fun x=> !(cq x.1 (dS e.aE o))),∃rs,(x.1,rs)∈reads.filter (fun x=> !(cq x.1 (dS e.aE o)))/\p7 tab ops C' (kq h' s.h log' hid) (ik h1 e.h hidA) x rs:=by
   intro x hx;obtain⟨rs,g1,g2,g3⟩:=hread x hx;exact⟨rs,g1,g2.mono e2.fz fun p hp o' I hpo hI hc=>hkeep p o' I hpo hI hc (g3 p hp).1 (g3 p hp).2.1 (g3 p hp).2.2⟩
 refine⟨MM fun x hx=>?_,_,C',log',k1,⟨?_,?_,rfl,?_,?_⟩,⟨?_,e2,?_,?_⟩⟩
 . obtain⟨rs,g1,g2,g3⟩:=hread x hx;obtain⟨ox,a0,hx1,q1,q2,q3,qb,q4,q5⟩:=g2;refine⟨ox,_,q1,xj q2 q3 (h:=gV (ik h1 e.h hidA) hidA) (fun β ob hβ=>?_) q4,qb⟩;rcases q5 β ob hβ with hz|⟨hz,p,hp,o',I,p1,p2,p3,rfl⟩
   . rw[gR,if_neg (hfz β ob hz),mU,if_neg (hfz β ob hz)];exact e4.fz _ _ (e2.fz _ _ hz)
   . obtain⟨r1,r2,r3⟩:=g3 p hp;rw[gR,if_neg (hnot p o' I p1 p2 p3 r3),(hkeep p o' I p1 p2 p3 r1 r2 r3).1];exact hz
 . simp only;rw[tL];exact k2
 . simp only;rw[k3];exact B1
 . simp only;rw[k3];exact halh.mono fun x hx o' I hp hI hc=>(B4 x hx o' I hp hI hc).2
 . simp only;rw[k3];exact hstb
 . simp only;rw[k4];simp only;rw[el]
 . refine⟨?_,fun j ob hj=>?_⟩
   . simp only;rw[qf];have:=e7.next;rw[iH]at this;exact this
   . simp only at hj;rw[mU]at hj;split at hj
     . exact .inl ⟨ob,hj⟩
     . rcases e7.old j ob hj with⟨o0,h0⟩|hge
       . rw[gR]at h0;split at h0
         . cases h0
         . exact .inl ⟨o0,h0⟩
       . rw[iH]at hge;exact .inr hge
 . simp only;rw[k3];intro p o' I hp hI hc hm;by_cases hn:∃y∈hid,y.2=p
   . obtain⟨y,hy,rfl⟩:=hn;obtain⟨q1,q2⟩:=B4 y hy o' I hp hI hc;exact⟨q1, .inl q2⟩
   . obtain⟨q1,q2⟩:=e6 p o' I (by simp only;rw[tX,if_neg hn];exact hp) hI hc hm;rw[gR,if_neg (hnot p o' I hp hI hc hn)]at q1;refine⟨by rw[mU,if_neg (hnot p o' I hp hI hc hn)];exact q1,?_⟩;rcases q2 with⟨o2,r1,r2⟩|r
     . exact .inl ⟨o2,by simp only;rw[oH,if_neg hn];exact r1,r2⟩
     . exact .inr r
theorem Hi (htab:cfg.tab=tab) (hrec:nu P tab rec) (hcon:∀g C,cfg.gm g=some C->cf P tab g C):yq P tab cfg rec:=by
 have main:∀(ops:Array Oper) (nt n:Nat) (d:SD) (e:DS) (C:Cx) (K:St->Prop),sR cfg rec ops nt n d K->ja tab ops C d e->
   fy P tab ops nt (fun sF=>∃s' C' new,K s'/\s'.log=d.s.log++new/\Tr C new C'/\HS tab C' s'.h sF.h/\FS C' s'.ts sF.ts/\Grow e.h sF.h/\cN C d.s.h e.h new C' s'.h sF.h) n e:=by
  intro ops nt n;induction n with
  |zero=>intro d e C K h;exact h.elim
  |succ n ih=>
   intro d e C K h S;simp only[sR]at h;obtain⟨e1,d1,C1,g1,g2,g3,g4⟩:=PD htab ops.toList 0 d e C _ (fun j o hj=>by simpa using hj) h S;refine⟨e1,g1,?_⟩;rw[g3.aE]at g2;split at g2
   . rename_i hc;obtain⟨_,hk⟩:=cH g2;exact .inl ⟨hc,d1.s,C1,[],hk,g4.log,g4.tr,g3.H,g3.F,g4.grow,g4.aU⟩
   . rename_i c o hc;refine .inr ⟨c,o,hc,?_⟩;obtain⟨q1,q2,q3⟩:=Qc htab hrec hcon g2 g3;refine⟨q1,q2,q3.mono fun v h1 _ hΘ=>⟨hΘ.1,?_⟩⟩;obtain⟨d2,C2,new,k1,k2,k3⟩:=hΘ.2;refine fy.mono ?_ _ _ (ih d2 _ C2 K k1 k2);rintro sF ⟨s',C',new',r1,r2,r3,r4,r5,r6,r7⟩;have p:=g4.trans k3 g3.H.fz k2.H.fz;simp only[BE]at p;exact⟨s',C',new++new',r1,by rw[r2,p.log,B6],p.tr.trans r3,r4,r5,p.grow.trans r6,p.aU.trans r7 r3.fz k2.H.fz r4.fz⟩
   . exact g2.elim
 intro ops nt n s K ta a C h hF H;exact main ops nt n ⟨s, .e,[],[]⟩ {ts:=ta,h:=a,aE:= .e,reads:=[],ax:=[]} C K h ⟨hF,H,rfl,trivial,fun x hx=>by cases hx⟩
theorem RC (pr:fI P tab) (htab:cfg.tab=tab) (hcon:∀g C,cfg.gm g=some C->cf P tab g C) (n:Nat):nu P tab (wp cfg n):=
 N5 pr htab hcon (fun _ hrec=>Hi htab hrec hcon) n
end
end
section
universe u v
variable [Inhabited aF]
section
variable (cfg:iq)
def pb (e v:SV) (s:St):Prop:=
 match s with
 |⟨_,h,_⟩=>match e,v with
  | .bj es, .bj vs=>dP cfg 1000 es vs ⟨[],h,[]⟩ fun _=>True
  | .bj _,_=>False
  |e,v=>dP cfg 1000 [e] [v] ⟨[],h,[]⟩ fun _=>True
end
section
variable {P:Program} {tab:aZ} {cfg:iq}
theorem PH (htab:cfg.tab=tab) {e v:SV} {s:St} (h:pb cfg e v s) {C:Cx} {a:AH} {av:AV} (H:HS tab C s.h a) (hv:aB C v av):∃Fz':Nat->Option AO,(∀i o,C.Fz i=some o->Fz' i=some o)/\(∀i o,Fz' i=some o->a.get i=some o)/\aI Fz' e av:=by
 obtain⟨ts,hh,log⟩:=s;have one:∀(e v:SV),dP cfg 1000 [e] [v] ⟨[],hh,[]⟩ (fun _=>True)->aB C v av->∃Fz':Nat->Option AO,(∀i o,C.Fz i=some o->Fz' i=some o)/\(∀i o,Fz' i=some o->a.get i=some o)/\aI Fz' e av:=by
   intro e v h hv;obtain⟨C1,new,s1,g1,g2,g3,g4,g5,_,g7⟩:=yu (ta:= .e) htab 1000 _ _ [av] _ C _ h (aN.cons hv aN.nil) (fun t s hs=>by simp[look]at hs) H;exact⟨C1.Fz,g2.fz,g3.fz,g7.2 0 e av rfl rfl⟩
 simp only[pb]at h;split at h
 . rename_i es vs;obtain⟨us,rfl,hs⟩:=vA hv;obtain⟨C1,new,s1,g1,g2,g3,g4,g5,_,g7⟩:=yu (ta:= .e) htab 1000 _ _ us _ C _ h hs (fun t s hs=>by simp[look]at hs) H;exact⟨C1.Fz,g2.fz,g3.fz, .bj g7.1 g7.2⟩
 . exact h.elim
 . exact one _ _ h hv
end
end
section
universe u v
variable [Inhabited aF]
def tC (v:SV) (_:St):Prop:=match v with| .bool b=>b=true|_=>False
section
variable {P:Program} {tab:aZ} {cfg:iq}
end
end
section
universe u v
variable [Inhabited aF]
section
variable {P:Program} {tab:aZ}
theorem eC.shut (ok:bw P tab) {f:FuncId} {fn:Func} {body:Code} {avs:List AV} {Θ:AV->AH->Prop} (hfn:tab.fns.get f=some fn) (hb:fn.body=some body) (hgo:eC P {fr:=af.enter fn f body avs .normal,cs:=[],h:=eV} Θ)
   (hargs:∀E E',aY E avs=aY E' avs) (hv:∀v h',Θ v h'->∀E E',ab E v=ab E' v) (a:AH):eC P {fr:=af.enter fn f body avs .normal,cs:=[],h:=a} fun v a'=>a'=a/\ ∃h',Θ v h':=by
 intro D E K base frC csC w hR hB;have hP:=ok.fns f fn hfn;obtain⟨q1,q2,q3⟩:=hR.all E (ak.refl _ _);have hR0:Rel (fun _=>False) E (KS.old w.heap.size) {fr:=af.enter fn f body avs .normal,cs:=[],h:=eV} base frC csC w:=by
   refine⟨fun E' _=>⟨Hj E' _ w (fun b h=>h) (fun b h=>h),?_,q3⟩,fun i h=>h.elim,hR.wf⟩;rw[<-q2];simp only;rw[<-mb hP hb,<-mb hP hb,hargs E' E]
 obtain⟨v,h',hΘ,fr',w',v',E',D',s1,s2,s3,s4,s5,s6,s7,s8,s9,s10⟩:=hgo _ E _ base frC csC w hR0 (fun b hb=>⟨q1.kb b (hB b hb).1,(hB b hb).2⟩);refine⟨v,a,⟨rfl,h',hΘ⟩,fr',w',v',E,D,s1,s2,s3,fun E'' he=>⟨?_,?_⟩,ak.refl _ _,fun _ h=>h,hR.eo,⟨s8.os,s8.tape,s8.output,s8.size,fun b hb'=>s8.block b (q1.kb b hb'),s8.drawn⟩,Ah _,fun i hi=> .inl hi⟩
 . obtain⟨g1,_,_⟩:=hR.all E'' he;refine⟨fun i o hi=>?_,g1.nk,g1.inj,g1.eo,fun b hb'=>AU (g1.kb b hb') s8.size,g1.im,g1.k0⟩;obtain⟨c,h1,h2⟩:=g1.obj i o hi;refine⟨c,?_,h2⟩;rw[s8.block _ (Ac.1 h1).1];exact h1
 . rw[<-(s4 E' (ak.refl _ _)).2];exact hv v h' hΘ _ _
theorem cf.shut (pr:fI P tab) {f:FuncId} {C:aP} (h:∀fn body,tab.fns.get f=some fn->fn.body=some body->∀y,C.pre y->∀avs Fz,PL Fz (C.args y) avs->(∀E E',aY E avs=aY E' avs)/\ ∃Θ:AV->AH->Prop,eC P {fr:=af.enter fn f body avs .normal,cs:=[],h:=eV} Θ/\ ∀v h',Θ v h'->(∀E E',ab E v=ab E' v)/\aI (fun _=>none) (C.res y) v):cf P tab f C:=by
 intro fn body hfn hb y hy Fz a avs hfz hwf hlen hav;obtain⟨h1,Θ,h2,h3⟩:=h fn body hfn hb y hy avs Fz ⟨hlen,hav⟩;refine(eC.shut pr.ok hfn hb h2 h1 (fun v h' hv=>(h3 v h' hv).1) a).mono ?_;rintro v a' ⟨rfl,h',hv⟩;exact⟨Fz,fun _ _ h=>h,hfz,(h3 v h' hv).2.mono (fun _ _ h=>by cases h),Grow.refl _,fun _ _ h=>h,hwf,fun _ _ h=> .inl h⟩
theorem eC.run (pr:fI P tab) {n:Nat} {m:AM} {outs:List (AV×AH)} (h:Am.run tab n m= .ok outs):eC P m fun v h'=>(v,h')∈outs:=by
 intro D E K base frC csC w hR hB;exact(MP pr.ok pr.ext (fun sub hsub=>xv pr.ok hsub pr.ext pr.mix) n).1 m outs h D E K base frC csC w hR
end
end
section
universe u v
variable [Inhabited aF]
def cO (n:Nat):Value->AV
 | .bool b=> .bool b
 | .int k z=> .int k z
 | .string s=> .str s.data.toList
 | .pointer none=> .aW
 | .slice none 0 0=> .nils
 | .slice (some ⟨b,off,none⟩) (len+1) cap=>if b<n then .sl b off (len+1) (.lit cap)else .raw (.slice (some ⟨b,off,none⟩) (len+1) cap)
 | .map none=> .bh
 | .nilFunc=> .bB
 |v=> .raw v
def eH (n:Nat):Value->AV
 | .agg cs=> .agg (cs.toList.map (cO n))
 |v=>cO n v
theorem FI {n:Nat} {E:Env} (hE:∀i,i<n->E.aQ i=i) (v:Value):ab E (cO n v)=v:=by
 unfold cO;split<;>try (simp[ab];done)
 split
 . rename_i b off len cap hb;simp[ab,hE _ hb,fD.val]
 . simp[ab]
theorem CQ {n:Nat} {E:Env} (hE:∀i,i<n->E.aQ i=i) (l:List Value):aY E (l.map (cO n))=l:=by
 induction l with
 |nil=>rfl
 |cons v l ih=>simp[FI hE,ih]
theorem xC {n:Nat} {E:Env} (hE:∀i,i<n->E.aQ i=i) (v:Value):ab E (eH n v)=v:=by
 unfold eH;split
 . simp[ab,CQ hE]
 . exact FI hE _
theorem xr {n:Nat} {E:Env} (hE:∀i,i<n->E.aQ i=i) (l:List Value):aY E (l.map (eH n))=l:=by
 induction l with
 |nil=>rfl
 |cons v l ih=>simp[xC hE,ih]
def jM (tab:aZ) (w:World) (b:Nat):Option AO:=
 match w.heap[b]? with
 |some (.cells arr e _)=>some (.cells (arr.toList.map (cO w.heap.size)) e ((tab.siz.get e).getD 1) false .ro)
 |_=>none
def bS (tab:aZ) (w:World):AH:=ofFn w.heap.size (jM tab w)
theorem Gi {tab:aZ} {w:World} {b:Nat} {o:AO} (h:jM tab w b=some o):∃arr e fz,w.heap[b]? =some (.cells arr e fz)/\o= .cells (arr.toList.map (cO w.heap.size)) e ((tab.siz.get e).getD 1) false .ro:=by
 unfold jM at h;split at h
 . rename_i arr e fz hb
   cases h;exact⟨arr,e,fz,hb,rfl⟩
 . cases h
theorem uP {tab:aZ} {w:World} {b:Nat}:(bS tab w).get b=jM tab w b:=by
 unfold bS;rw[oP];split
 . rfl
 . rename_i hb;unfold jM;rw[DK (by omega)]
theorem oR (tab:aZ) (w:World) {E:Env} (hE:∀i,i<w.heap.size->E.aQ i=i):bn E (bS tab w) (KS.old w.heap.size) w:=by
 have hro:∀i o,(bS tab w).get i=some o->o.ro/\i<w.heap.size:=by
   intro i o hi;rw[uP]at hi;obtain⟨arr,e,fz,hb,rfl⟩:=Gi hi;exact⟨trivial,(Ac.1 hb).1⟩
 refine⟨fun i o hi=>?_,fun i o hi hr=>absurd (hro i o hi).1 hr,fun i j oi oj hi hj hr=>absurd (hro i oi hi).1 hr,fun i o hi=>(hro i o hi).2,fun b hb=>hb,fun i o hi _=>?_,fun b hb=>hb⟩
 . rw[uP]at hi;obtain⟨arr,e,fz,hb,rfl⟩:=Gi hi;have hlt:=(Ac.1 hb).1;refine⟨_,by rw[hE i hlt];exact hb,arr,fz,rfl,⟨[],by simp[CQ hE]⟩,by simp,trivial⟩
 . show E.aQ i<w.heap.size
   rw[hE i (hro i o hi).2];exact(hro i o hi).2
theorem yg (n:Nat) (a:Addr) (c:Nat):cO n (.slice (some a) 0 c)= .raw (.slice (some a) 0 c):=by
 unfold cO;split<;>simp_all
theorem Pa {n b off len cap:Nat} (h:len≠0) (hb:b<n):cO n (.slice (some ⟨b,off,none⟩) len cap)= .sl b off len (.lit cap):=by
 cases len with
 |zero=>exact absurd rfl h
 |succ len=>simp[cO,hb]
theorem ym {tab:aZ} {w:World} {X:Type} {L:List X} {enc:X->List SV} {b off len cap:Nat} {arr:Array Value} {e:TypeId} {fz:Nat×Nat} {sz:Nat} (hb:w.heap[b]? =some (.cells arr e fz))
   (h0:0<sz) (hn:∀x∈L,(enc x).length=sz) (hl:off+L.length*sz<=arr.size) (hlen:len=L.length) (hcap:len<=cap)
   (hc:∀(i:Nat) x (j:Nat) v,L[i]? =some x->(enc x)[j]? =some v->∃u,arr[off+i*sz+j]? =some u/\aI (bS tab w).get v (cO w.heap.size u)):
   aI (bS tab w).get (.aJ X L enc) (cO w.heap.size (.slice (some ⟨b,off,none⟩) len cap)):=by
 have hlt:=(Ac.1 hb).1;have hg:(bS tab w).get b=some (.cells (arr.toList.map (cO w.heap.size)) e ((tab.siz.get e).getD 1) false .ro):=by
   rw[uP];unfold jM;rw[hb]
 subst hlen;by_cases hL:L.length=0
 . rw[hL,yg];exact .bL hL (.inr (.inr ⟨_,_,rfl⟩))
 rw[Pa hL hlt];refine .aJ b off (.lit cap) _ e sz false .ro (fun i j=>cO w.heap.size (arr[off+i*sz+j]?.getD (.bool false))) ⟨_,false,hg,fun h=>by cases h⟩ h0 (by simpa using hl) (fun i x hx=>hn x (BP hx)) hcap ?_ ?_
 . intro i x j v hx hv;obtain⟨u,hu,_⟩:=hc i x j v hx hv;simp[hu]
 . intro i x j v hx hv;obtain⟨u,hu,hs⟩:=hc i x j v hx hv;simp only[hu,AK];exact hs
section
variable {P:Program} {tab:aZ} {cfg:iq}
end
end
section
universe u v
variable [Inhabited aF]
abbrev az (a b:Int):Prop:=a=b
theorem aj {b:Bool} {p q:Prop}:br b p q↔(b=true->p)/\(b=false->q):=by
 cases b<;>simp[br]
theorem aA {b:Bool} {p q:Prop} (h:b=true->p) (k:b=false->q):br b p q:=aj.2 ⟨h,k⟩
theorem ah {b:Bool} {p:Prop}:ck b p↔b=true/\p:=by
 cases b<;>simp[ck]
theorem ar {α:Type u} {x:Option α} {k:α->Prop}:so x k↔∃a,x=some a/\k a:=by
 cases x<;>simp[so]
theorem mB (n:Int):nn n=decide (0<=n):=by
 rw[A4]
 cases n with
 |ofNat a=>simp only[nn,Ae,true_iff];exact EB a
 |negSucc a=>simp only[nn,Ae,Ak,false_iff];omega
theorem gJ (n:Int):bC .i64 n=true↔ -9223372036854775808<=n/\n<=9223372036854775807:=by
 simp only[bC,wN,wL,fg,Ab,Ae];constructor<;>rintro⟨h1,h2⟩<;>constructor<;>(try simp only[Aa]at*)<;>omega
def dh {C:aP} (cfg:C.Y->iq) (n:Nat) (f:FuncId):Prop:=∀y:C.Y,C.pre y->ask (cfg y) n f (C.args y) (pb (cfg y) (C.res y))
theorem bZ {P:Program} {tab:aZ} {C:aP} {cfg:C.Y->iq} (pr:fI P tab) (htab:∀y,(cfg y).tab=tab) (hcon:∀y g C',(cfg y).gm g=some C'->cf P tab g C') {n:Nat} {f:FuncId} (h:dh cfg n f):cf P tab f C:=by
 refine cf.of fun fn body hfn hb y hy C0 a avs hρ H hlen hav=>?_
 have h1:=h y hy;unfold ask at h1;rw[htab y,hfn]at h1;simp only[hb]at h1;refine(RC pr (htab y) (hcon y) n f fn body (C.args y) ⟨0,[]⟩ a C0 avs _ hfn hb h1 H ⟨hlen,fun i s v hs hv=> .pure (hav i s v hs hv)⟩).mono ?_;rintro v a' ⟨sv,s',C',k1,k2,k3,k4⟩;exact⟨sv,s',C',fun C1 a1 av H1 hv1=>PH (htab y) k1 H1 hv1,k2,k3,k4⟩
theorem bX {P:Program} {tab:aZ} {gm:FuncId->Option aP} {k:FuncId} {c:aP} (hc:cf P tab k c) (h:∀g C,gm g=some C->cf P tab g C):∀g C,(bif Nat.beq g k then some c else gm g)=some C->cf P tab g C:=by
 intro g C hg
 cases hb:Nat.beq g k
 . rw[hb]at hg;exact h g C hg
 . rw[hb]at hg
   cases hg;rw[Af hb];exact hc
theorem rZ {P:Program} {tab:aZ}:∀g C,(none:Option aP)=some C->cf P tab g C:=fun _ _ h=>by cases h
end
section
universe u v
variable [Inhabited aF]
inductive Rd (w:World) (p:Nat->Prop) (arg:Bool):SV->Value->Prop
 |bool (b:Bool):Rd w p arg (.bool b) (.bool b)
 |int (k:IntKind) (n:Int):Rd w p arg (.int k n) (.int k n)
 |str (s:List UInt8):Rd w p arg (.str s) (.string ⟨s.toArray⟩)
 |aW:Rd w p arg .aW (.pointer none)
 |wp (a:Addr):Rd w p arg (.wp a) (.pointer (some a))
 |nils:Rd w p arg .nils (.slice none 0 0)
 |bh:Rd w p arg .bh (.map none)
 |bB:Rd w p arg .bB .nilFunc
 |any (v:Value):Rd w p arg .any v
 |fn {f:FuncId} {xs ys:List SV} (h:arg=true) (v:Value):Rd w p arg (.fn f xs ys) v
 |cB {cs:List SV} {off:Nat} (h:arg=true) (v:Value):Rd w p arg (.cB cs off) v
 |gE {X:Type} {L:List X} {enc:X->List SV} (h0:L.length=0):Rd w p arg (.aJ X L enc) (.slice none 0 0)
 |bL {X:Type} {L:List X} {enc:X->List SV} (h:arg=true) (h0:L.length=0) (a:Option Addr) (c:Nat):Rd w p arg (.aJ X L enc) (.slice a 0 c)
 |aJ {X:Type} {L:List X} {enc:X->List SV} (b off cap:Nat) (arr:Array Value) (e:TypeId) (fz:Nat×Nat) (sz:Nat) (u:Nat->Nat->Value)
  (hp:p b) (hb:w.heap[b]? =some (.cells arr e fz)) (hs:0<sz) (hl:off+L.length*sz<=arr.size) (hn:∀(i:Nat) x,L[i]? =some x->(enc x).length=sz) (hc:L.length<=cap)
  (h1:∀(i:Nat) x (j:Nat) v,L[i]? =some x->(enc x)[j]? =some v->arr[off+i*sz+j]? =some (u i j)) (h2:∀(i:Nat) x (j:Nat) v,L[i]? =some x->(enc x)[j]? =some v->Rd w p arg v (u i j)):Rd w p arg (.aJ X L enc) (.slice (some ⟨b,off,none⟩) L.length cap)
 |agg {cs:List SV} {vs:Array Value} (h1:cs.length=vs.size) (h2:∀(i:Nat) c v,cs[i]? =some c->vs[i]? =some v->Rd w p arg c v):Rd w p arg (.agg cs) (.agg vs)
 |bj {cs:List SV} {vs:Array Value} (h1:cs.length=vs.size) (h2:∀(i:Nat) c v,cs[i]? =some c->vs[i]? =some v->Rd w p arg c v):Rd w p arg (.bj cs) (.tuple vs)
def zz (w:World) (p:Nat->Prop) (arg:Bool) (l:List SV) (m:List Value):Prop:=l.length=m.length/\ ∀(i:Nat) s v,l[i]? =some s->m[i]? =some v->Rd w p arg s v
theorem C3 {E:Env} {a:AH} {K:KS} {w:World} (H:bn E a K w) {Fz:Nat->Option AO} (hf:∀i o,Fz i=some o->a.get i=some o) {p:Nat->Prop} (hp:∀i o,Fz i=some o->p (E.aQ i)) {s:SV} {v:AV} (h:aI Fz s v):Rd w p true s (ab E v):=by
 induction h with
 |bool b=>exact .bool b
 |int k n=>exact .int k n
 |str s=>exact .str s
 |aW=>exact .aW
 |wp a=>exact .wp a
 |nils=>exact .nils
 |bh=>exact .bh
 |bB=>exact .bB
 |any v=>exact .any _
 |bL h0 hv=>
  rcases hv with rfl|⟨b,off,l,n,k,rfl⟩|⟨a,c,rfl⟩
  . exact .gE h0
  . exact .bL rfl h0 _ _
  . exact .bL rfl h0 _ _
 | @aJ X L enc b off cap cs e sz ext bk u hb hs hl hn hc h1 h2 ih=>
  obtain⟨sz0,ext0,hb,hx0⟩:=hb;have hpb:=hp _ _ hb;obtain⟨arr,fz,hw,⟨rest,hr⟩,hsz⟩:∃arr fz,w.heap[E.aQ b]? =some (.cells arr e fz)/\(∃rest,arr.toList=aY E cs++rest)/\(if ext0 then arr.size=E.cap b*sz0 else arr.size=cs.length):=by
    obtain⟨c,k1,arr,fz,rfl,k2,k3,_⟩:=H.obj _ _ (hf _ _ hb);exact⟨arr,fz,k1,k2,k3⟩
  have hle:cs.length<=arr.size:=by
    have:=Ax List.length hr;simp at this;omega
  simp only[ab];refine .aJ _ off _ arr e fz sz (fun i j=>ab E (u i j)) hpb hw hs (by omega) hn ?_ ?_ ih
  . cases cap with
    |lit m=>exact hc
    |tail k=>
     obtain⟨g1,g2⟩:=hc;obtain⟨g3,g4⟩:=hx0 g1;rw[g4,if_pos rfl,g3]at hsz;rw[g2]at hl;have h5:(k+L.length)*sz<=E.cap b*sz:=by rw[Bq];omega
     have:=Nat.le_of_mul_le_mul_right h5 hs;show L.length<=E.cap b - k
     omega
  . intro i x j v hx hv;have h3:=h1 i x j v hx hv;rw[<-Bd,hr];have hlt:off+i*sz+j<(aY E cs).length:=by
     simp;exact(Ad.1 h3).1
    rw[AX hlt,jD,h3];rfl
 |cB b base ca e sz ext bk u hb hl h1 _ ih=>exact .cB rfl _
 |fn h1 h2 _ _ ih3 ih4=>exact .fn rfl _
 | @agg cs vs h1 _ ih=>
  simp only[ab];refine .agg (by simpa using h1) (fun i c v hc hv=>?_);simp only[AS,jD]at hv;obtain⟨u,hu,rfl⟩:=Ap.1 hv;exact ih i c u hc hu
 | @bj cs vs h1 _ ih=>
  simp only[ab];refine .bj (by simpa using h1) (fun i c v hc hv=>?_);simp only[AS,jD]at hv;obtain⟨u,hu,rfl⟩:=Ap.1 hv;exact ih i c u hc hu
theorem uu {E:Env} {a:AH} {K:KS} {w:World} (H:bn E a K w) {Fz:Nat->Option AO} (hf:∀i o,Fz i=some o->a.get i=some o) {s:SV} {v:AV} (h:aI Fz s v):Rd w (fun _=>True) true s (ab E v):=C3 H hf (fun _ _ _=>trivial) h
def ft (n m lo:Nat):Value->AV
 | .bool b=> .bool b
 | .int k z=> .int k z
 | .string s=> .str s.data.toList
 | .pointer none=> .aW
 | .slice none 0 0=> .nils
 | .slice (some ⟨b,off,none⟩) (len+1) cap=>if n<=b/\b<m then .sl (lo+(b - n)) off (len+1) (.lit cap)else .raw (.slice (some ⟨b,off,none⟩) (len+1) cap)
 | .map none=> .bh
 | .nilFunc=> .bB
 |v=> .raw v
theorem FH {n m lo:Nat} {E:Env} (hE:∀b,n<=b->b<m->E.aQ (lo+(b - n))=b) (v:Value):ab E (ft n m lo v)=v:=by
 unfold ft;split<;>try (simp[ab];done)
 split
 . rename_i b off len cap hb;simp[ab,hE _ hb.1 hb.2,fD.val]
 . simp[ab]
theorem L3 {n m lo:Nat} {E:Env} (hE:∀b,n<=b->b<m->E.aQ (lo+(b - n))=b) (l:List Value):aY E (l.map (ft n m lo))=l:=by
 induction l with
 |nil=>rfl
 |cons v l ih=>simp[FH hE,ih]
def SV.atom:SV->Bool
 | .agg _=>false
 | .bj _=>false
 |_=>true
inductive Up (w:World) (n:Nat):SV->Value->Prop
 |bool (b:Bool):Up w n (.bool b) (.bool b)
 |int (k:IntKind) (z:Int):Up w n (.int k z) (.int k z)
 |str (s:List UInt8):Up w n (.str s) (.string ⟨s.toArray⟩)
 |aW:Up w n .aW (.pointer none)
 |nils:Up w n .nils (.slice none 0 0)
 |bh:Up w n .bh (.map none)
 |bB:Up w n .bB .nilFunc
 |any (v:Value):Up w n .any v
 |gE {X:Type} {L:List X} {enc:X->List SV} (h0:L.length=0):Up w n (.aJ X L enc) (.slice none 0 0)
 |bL {X:Type} {L:List X} {enc:X->List SV} (h0:L.length=0) (a:Option Addr) (c:Nat):Up w n (.aJ X L enc) (.slice a 0 c)
 |aJ {X:Type} {L:List X} {enc:X->List SV} (b off cap:Nat) (arr:Array Value) (e:TypeId) (fz:Nat×Nat) (sz:Nat) (u:Nat->Nat->Value)
  (hp:n<=b) (hb:w.heap[b]? =some (.cells arr e fz)) (hs:0<sz) (hl:off+L.length*sz<=arr.size) (hn:∀(i:Nat) x,L[i]? =some x->(enc x).length=sz) (hc:L.length<=cap)
  (ha:∀(i:Nat) x (j:Nat) v,L[i]? =some x->(enc x)[j]? =some v->v.atom=true)
  (h1:∀(i:Nat) x (j:Nat) v,L[i]? =some x->(enc x)[j]? =some v->arr[off+i*sz+j]? =some (u i j)) (h2:∀(i:Nat) x (j:Nat) v,L[i]? =some x->(enc x)[j]? =some v->Up w n v (u i j)):Up w n (.aJ X L enc) (.slice (some ⟨b,off,none⟩) L.length cap)
 |agg {cs:List SV} {vs:Array Value} (h1:cs.length=vs.size) (h2:∀(i:Nat) c v,cs[i]? =some c->vs[i]? =some v->Up w n c v):Up w n (.agg cs) (.agg vs)
 |bj {cs:List SV} {vs:Array Value} (h1:cs.length=vs.size) (h2:∀(i:Nat) c v,cs[i]? =some c->vs[i]? =some v->Up w n c v):Up w n (.bj cs) (.tuple vs)
def ig (a:AH) (n:Nat) (w:World):AH:=ofFn (a.next+(w.heap.size - n)) fun i=>if i<a.next then a.get i else
 match w.heap[n+(i - a.next)]? with
 |some (.cells arr e _)=>some (.cells (arr.toList.map (ft n w.heap.size a.next)) e 1 false .cold)
 |_=>none
theorem mV {a:AH} {n:Nat} {w:World} {i:Nat} (hi:i<a.next):(ig a n w).get i=a.get i:=by
 unfold ig;rw[oP,if_pos (by omega),if_pos hi]
theorem GQ {a:AH} {n:Nat} {w:World} {i:Nat} {o:AO} (hi:a.next<=i) (h:(ig a n w).get i=some o):
   ∃arr e fz,w.heap[n+(i - a.next)]? =some (.cells arr e fz)/\o= .cells (arr.toList.map (ft n w.heap.size a.next)) e 1 false .cold:=by
 unfold ig at h;rw[oP]at h;split at h
 . rw[if_neg (by omega)]at h;split at h
   . rename_i arr e fz hb
     cases h;exact⟨arr,e,fz,hb,rfl⟩
   . cases h
 . cases h
theorem OL {a:AH} {n:Nat} {w:World} {b:Nat} {arr:Array Value} {e:TypeId} {fz:Nat×Nat} (hb:n<=b) (h:w.heap[b]? =some (.cells arr e fz)):
  (ig a n w).get (a.next+(b - n))=some (.cells (arr.toList.map (ft n w.heap.size a.next)) e 1 false .cold):=by
 have hlt:=(Ac.1 h).1;unfold ig;rw[oP,if_pos (by omega),if_neg (by omega),show n+(a.next+(b - n) - a.next)=b from by omega,h]
theorem Gk {n m lo:Nat} {Fz:Nat->Option AO} {X:Type} {L:List X} {enc:X->List SV} (h0:L.length=0) (p:Option Addr) (c:Nat):aI Fz (.aJ X L enc) (ft n m lo (.slice p 0 c)):=by
 have:ft n m lo (.slice p 0 c)= .nils\/ft n m lo (.slice p 0 c)= .raw (.slice p 0 c):=by
   unfold ft;split<;>simp_all
 rcases this with h|h
 . rw[h];exact .bL h0 (.inl rfl)
 . rw[h];exact .bL h0 (.inr (.inr ⟨_,_,rfl⟩))
theorem Q4 {a:AH} {n:Nat} {w:World} {Fz:Nat->Option AO} (hF:∀i o,a.next<=i->(ig a n w).get i=some o->Fz i=some o) {s:SV} {v:Value} (h:Up w n s v):
  (s.atom=true->aI Fz s (ft n w.heap.size a.next v))/\ ∃av,aI Fz s av/\ ∀E:Env,(∀b,n<=b->b<w.heap.size->E.aQ (a.next+(b - n))=b)->ab E av=v:=by
 have key:∀{s:SV} {v:Value},aI Fz s (ft n w.heap.size a.next v)->(s.atom=true->aI Fz s (ft n w.heap.size a.next v))/\ ∃av,aI Fz s av/\ ∀E:Env,(∀b,n<=b->b<w.heap.size->E.aQ (a.next+(b - n))=b)->ab E av=v:=
  fun{s v} h=>⟨fun _=>h,_,h,fun E hE=>FH hE v⟩
 induction h with
 |bool b=>exact key (.bool b)
 |int k z=>exact key (.int k z)
 |str s=>exact key (by simp only[ft];exact .str s)
 |aW=>exact key .aW
 |nils=>exact key .nils
 |bh=>exact key .bh
 |bB=>exact key .bB
 |any v=>exact key (.any _)
 |gE h0=>exact key (.bL h0 (.inl rfl))
 |bL h0 p c=>exact key (Gk h0 p c)
 | @aJ X L enc b off cap arr e fz sz u hp hb hs hl hn hc ha h1 h2 ih=>
  apply key;have hlt:=(Ac.1 hb).1;by_cases hL:L.length=0
  . rw[hL];exact Gk hL _ _
  obtain⟨len,hlen⟩:∃k,L.length=k+1:=⟨L.length - 1,by omega⟩;rw[hlen];simp only[ft];rw[if_pos ⟨hp,hlt⟩,<-hlen];refine .aJ _ off (.lit cap) _ e sz false .cold (fun i j=>ft n w.heap.size a.next (u i j)) ⟨1,false,hF _ _ (by omega) (OL hp hb),fun h=>by cases h⟩ hs (by simpa using hl) hn hc ?_ ?_
  . intro i x j v hx hv;have h3:=h1 i x j v hx hv;rw[Au,Bd,h3];rfl
  . intro i x j v hx hv;exact(ih i x j v hx hv).1 (ha i x j v hx hv)
 | @agg cs vs h1 h2 ih=>
  refine⟨fun h=>(by cases h),?_⟩;have hc:∀i:Nat,∃av,∀c v,cs[i]? =some c->vs[i]? =some v->aI Fz c av/\ ∀E:Env,(∀b,n<=b->b<w.heap.size->E.aQ (a.next+(b - n))=b)->ab E av=v:=by
    intro i
    cases hi:cs[i]? with
    |none=>exact⟨.aW,fun c v h=>by cases h⟩
    | some c=>
      cases hj:vs[i]? with
      |none=>exact⟨.aW,fun c v _ h=>by cases h⟩
      |some v=>
       obtain⟨_,av,g1,g2⟩:=ih i c v hi hj;exact⟨av,fun c' v' e1 e2=>by cases e1;cases e2;exact⟨g1,g2⟩⟩
  obtain⟨f,hf⟩:=Fb hc;refine⟨.agg ((List.range vs.size).map f), .agg (by simp[h1]) fun i c v hi hv=>?_,fun E hE=>?_⟩
  . have hi2:i<vs.size:=by rw[<-h1];exact(Ad.1 hi).1
    rw[Au,DW hi2]at hv
    cases hv;exact(hf i c _ hi (A5 hi2)).1
  . simp only[ab,Value.agg.injEq];apply Dg
    intro i;rw[AS,jD,Au];by_cases hi:i<vs.size
    . have hi2:i<cs.length:=by omega
      rw[DW hi,A5 hi];simp only[A2];rw[(hf i _ _ (Ag hi2) (A5 hi)).2 E hE]
    . rw[DK (by omega),Bl (by simp;omega)];rfl
 | @bj cs vs h1 h2 ih=>
  refine⟨fun h=>(by cases h),?_⟩;have hc:∀i:Nat,∃av,∀c v,cs[i]? =some c->vs[i]? =some v->aI Fz c av/\ ∀E:Env,(∀b,n<=b->b<w.heap.size->E.aQ (a.next+(b - n))=b)->ab E av=v:=by
    intro i
    cases hi:cs[i]? with
    |none=>exact⟨.aW,fun c v h=>by cases h⟩
    | some c=>
      cases hj:vs[i]? with
      |none=>exact⟨.aW,fun c v _ h=>by cases h⟩
      |some v=>
       obtain⟨_,av,g1,g2⟩:=ih i c v hi hj;exact⟨av,fun c' v' e1 e2=>by cases e1;cases e2;exact⟨g1,g2⟩⟩
  obtain⟨f,hf⟩:=Fb hc;refine⟨.bj ((List.range vs.size).map f), .bj (by simp[h1]) fun i c v hi hv=>?_,fun E hE=>?_⟩
  . have hi2:i<vs.size:=by rw[<-h1];exact(Ad.1 hi).1
    rw[Au,DW hi2]at hv
    cases hv;exact(hf i c _ hi (A5 hi2)).1
  . simp only[ab,Value.tuple.injEq];apply Dg
    intro i;rw[AS,jD,Au];by_cases hi:i<vs.size
    . have hi2:i<cs.length:=by omega
      rw[DW hi,A5 hi];simp only[A2];rw[(hf i _ _ (Ag hi2) (A5 hi)).2 E hE]
    . rw[DK (by omega),Bl (by simp;omega)];rfl
theorem Mq {P:Program} {f:FuncId} {k:CallKind} {l m:List Value} (hl:l.length=m.length) (h:Frame.enter P f l.toArray k=Frame.enter P f m.toArray k):l=m:=by
 have h:=Ax (fun fr=>fr.tmps.toList.take l.length) h;simp only[Frame.enter]at h;simpa [hl]using h
section
variable {P:Program} {tab:aZ}
theorem kv (ok:bw P tab) {f:FuncId} {C:aP} (h:∀y,C.pre y->∀(w:World) (args:List Value),cV w->zz w (fun _=>True) true (C.args y) args->
     Calls P f args.toArray w (fun e w'=>∃v,e= .returned v/\((∃i:Nat,(C.args y)[i]? =some (C.res y)/\args[i]? =some v)\/Up w' w.heap.size (C.res y) v)/\Below w.heap.size w w'/\((default:aF).dr->w.drawn<=w'.drawn))):cf P tab f C:=by
 classical
 intro fn body hfn hb y hy Fz a avs hfz hwf hlen hav;intro D E K base frC csC w hR hB;have hP:=ok.fns f fn hfn;obtain⟨q1,q2,q3⟩:=hR.all E (ak.refl _ _);have hconst:∀E',ak D E E'->aY E' avs=aY E avs:=by
   intro E' he;obtain⟨_,p2,_⟩:=hR.all E' he;simp only at p2 q2;rw[<-mb hP hb]at p2 q2;exact Mq (by simp) (p2.trans q2.symm)
 have hargs:zz w (fun _=>True) true (C.args y) (aY E avs):=by
   refine⟨by simpa using hlen,fun i s v hs hv=>?_⟩;rw[jD]at hv;obtain⟨av,hav',rfl⟩:=Ap.1 hv;exact uu q1 hfz (hav i s av hs hav')
 have hbc:base=csC:=q3;subst hbc;obtain⟨e,w',fr',⟨v,rfl,hv,hbel,hdr⟩,s1,s2,s3⟩:=h y hy w _ (fun b hb=>(hB b hb).2) hargs base;have hR0:frC=Frame.enter P f (aY E avs).toArray .normal:=by
   simp only at q2;rw[<-q2,mb hP hb]
 let n:=w.heap.size
 let h':=ig a n w'
 let Fz':Nat->Option AO:=fun i=>if i<a.next then Fz i else h'.get i
 let E':Env:=⟨fun i=>if i<a.next then E.aQ i else n+(i - a.next),E.cap⟩
 let D':Nat->Prop:=fun i=>D i\/(a.next<=i/\i<a.next+(w'.heap.size - n))
 have hdom:∀i,D i->i<a.next:=hR.eo;have hsz:n<=w'.heap.size:=hbel.size;have hag:∀E'',ak D' E' E''->ak D E E'':=by
   intro E'' he i hi;have h1:=he i (.inl hi);simp only[E',if_pos (hdom i hi)]at h1;exact h1
 have hblk:∀E'',ak D' E' E''->∀i,a.next<=i->i<a.next+(w'.heap.size - n)->E''.aQ i=n+(i - a.next):=by
   intro E'' he i h1 h2;have h3:=(he i (.inr ⟨h1,h2⟩)).1;simp only[E',if_neg (show ¬i<a.next by omega)]at h3;exact h3
 have hblk2:∀E'',ak D' E' E''->∀b,n<=b->b<w'.heap.size->E''.aQ (a.next+(b - n))=b:=by
   intro E'' he b h1 h2;rw[hblk E'' he _ (by omega) (by omega)];omega
 have hnext:h'.next=a.next+(w'.heap.size - n):=rfl;have hdom':∀i o,h'.get i=some o->i<h'.next:=by
   intro i o hi;have hi:(ig a n w').get i=some o:=hi;unfold ig at hi;rw[oP]at hi;split at hi
   . rename_i hlt;exact hlt
   . cases hi
 have hH:∀E'',ak D' E' E''->bn E'' h' K w':=by
   intro E'' he;obtain⟨g1,_,_⟩:=hR.all E'' (hag E'' he);simp only at g1;refine⟨fun i o hi=>?_,fun i o hi hr=>?_,fun i j oi oj hi hj hr hij=>?_,hdom',fun b hb'=>AU (g1.kb b hb') hsz,fun i o hi hr=>?_,g1.k0⟩
   . by_cases hlt:i<a.next
     . rw[show h'.get i=a.get i from mV hlt]at hi;obtain⟨c,h1,h2⟩:=g1.obj i o hi;exact⟨c,by rw[hbel.block _ (Ac.1 h1).1];exact h1,h2⟩
     . obtain⟨arr,e,fz,hb2,rfl⟩:=GQ (by omega) hi;have hlt2:=hdom' i _ hi;refine⟨_,by rw[hblk E'' he i (by omega) (by omega)];exact hb2,arr,fz,rfl,⟨[],by simp[L3 (hblk2 E'' he)]⟩,by simp,trivial⟩
   . by_cases hlt:i<a.next
     . rw[show h'.get i=a.get i from mV hlt]at hi;exact g1.nk i o hi hr
     . have hlt2:=hdom' i _ hi;rw[hblk E'' he i (by omega) (by omega)];intro hk;have:=g1.kb _ hk;omega
   . have hin:∀k ok',h'.get k=some ok'->(k<a.next/\E''.aQ k<n)\/(a.next<=k/\E''.aQ k=n+(k - a.next)):=by
       intro k ok' hk;by_cases hlt:k<a.next
       . rw[show h'.get k=a.get k from mV hlt]at hk;obtain⟨c,h1,h2⟩:=g1.obj k ok' hk;exact .inl ⟨hlt,(Ac.1 h1).1⟩
       . have:=hdom' k _ hk;exact .inr ⟨by omega,hblk E'' he k (by omega) (by omega)⟩
     rcases hin i oi hi with⟨h1,h2⟩|⟨h1,h2⟩<;>rcases hin j oj hj with⟨h3,h4⟩|⟨h3,h4⟩
     . rw[show h'.get i=a.get i from mV h1]at hi;rw[show h'.get j=a.get j from mV h3]at hj;exact g1.inj i j oi oj hi hj hr hij
     all_goals omega
   . by_cases hlt:i<a.next
     . rw[show h'.get i=a.get i from mV hlt]at hi;exact g1.im i o hi hr
     . obtain⟨arr,e,fz,hb2,rfl⟩:=GQ (by omega) hi;exact hr.elim
 have hval:∃av,aI Fz' (C.res y) av/\ ∀E'',ak D' E' E''->ab E'' av=v:=by
   rcases hv with⟨i,hi,hvi⟩|hv
   . rw[jD]at hvi;obtain⟨av,hav',rfl⟩:=Ap.1 hvi;refine⟨av,(hav i _ av hi hav').mono fun j o hj=>?_,fun E'' he=>?_⟩
     . have:j<a.next:=hwf j o (hfz j o hj);simp only[Fz',if_pos this];exact hj
     . have h1:=Ax (fun l=>l[i]?) (hconst E'' (hag E'' he));simp only[jD,hav',A2,AL]at h1;exact h1
   . obtain⟨_,av,g1,g2⟩:=Q4 (a:=a) (n:=n) (w:=w') (Fz:=Fz') (fun i o hi ho=>by simp only[Fz',if_neg (show ¬i<a.next by omega)];exact ho) hv;exact⟨av,g1,fun E'' he=>g2 E'' (hblk2 E'' he)⟩
 obtain⟨av,hsim,hconc⟩:=hval;refine⟨av,h',⟨Fz',fun i o hi=>?_,fun i o hi=>?_,hsim,⟨by rw[hnext];exact Nat.le_add_right _ _,fun i o hi=>?_⟩,fun i o hi=>?_,hdom',fun i o hi=>?_⟩,fr',w',v,E',D',?_,s2,s3,fun E'' he=>⟨hH E'' he,hconc E'' he⟩,?_,fun i hi=> .inl hi,fun i hi=>?_,⟨hbel.os,hbel.tape,hbel.output,hbel.size,fun b hb'=>hbel.block b (q1.kb b hb'),hdr⟩,?_,fun i hi=>?_⟩
 . have:i<a.next:=hwf i o (hfz i o hi);simp only[Fz',if_pos this];exact hi
 . by_cases hlt:i<a.next
   . simp only[Fz',if_pos hlt]at hi;rw[show h'.get i=a.get i from mV hlt];exact hfz i o hi
   . simp only[Fz',if_neg hlt]at hi;exact hi
 . by_cases hlt:i<a.next
   . rw[show h'.get i=a.get i from mV hlt]at hi;exact .inl ⟨o,hi⟩
   . exact .inr (by omega)
 . rw[show h'.get i=a.get i from mV (hwf i o hi)];exact hi
 . by_cases hlt:i<a.next
   . simp only[Fz',if_pos hlt]at hi;exact .inl hi
   . exact .inr (by omega)
 . rw[hR0];exact s1
 . intro i hi;exact⟨if_pos (hdom i hi),rfl⟩
 . rcases hi with hi|⟨_,hi⟩
   . have:=hdom i hi;rw[hnext];omega
   . exact hi
 . show a.next<=h'.next
   rw[hnext];exact Nat.le_add_right _ _
 . rcases hi with hi|⟨hi,_⟩
   . exact .inl hi
   . exact .inr hi
theorem nH (ok:bw P tab) {f:FuncId} {C:aP} (hc:cf P tab f C) {fn:Func} {body:Code} (hfn:tab.fns.get f=some fn) (hb:fn.body=some body) {y:C.Y} (hy:C.pre y) {args:List Value} {w:World}
  (hs:PL (bS tab w).get (C.args y) (args.map (eH w.heap.size))) (hw:cV w):Calls P f args.toArray w (fun e w'=>∃v,e= .returned v/\Rd w' (fun _=>True) true (C.res y) v/\Below w.heap.size w w'/\((default:aF).dr->w.drawn<=w'.drawn)):=by
 intro cs;have hP:=ok.fns f fn hfn;have hdom:∀i o,(bS tab w).get i=some o->i<(bS tab w).next:=fun i o hi=>(oR tab w (E:=⟨fun i=>i,fun _=>0⟩) (fun _ _=>rfl)).eo i o hi
 let E:Env:=⟨fun i=>i,fun _=>0⟩
 let D:Nat->Prop:=fun i=>i<w.heap.size
 have hag:∀E',ak D E E'->∀i,i<w.heap.size->E'.aQ i=i:=fun E' he i hi=>(he i hi).1
 have hR:Rel D E (KS.old w.heap.size) {fr:=af.enter fn f body (args.map (eH w.heap.size)) .normal,cs:=[],h:=bS tab w} cs (Frame.enter P f args.toArray .normal) cs w:=by
  refine⟨fun E' he=>⟨oR tab w (hag E' he),?_,rfl⟩,fun i h=>h,qq _ _ _ _ _,fun f hf=>by cases hf⟩;rw[<-mb hP hb,xr (hag E' he)]
 obtain⟨v,h',⟨Fz',_,f2,hsim,_⟩,fr',w',v',E',D',s1,s2,s3,s4,s5,s6,s7,s8,s9,s10⟩:=hc fn body hfn hb y hy (bS tab w).get (bS tab w) _ (fun _ _ h=>h) hdom hs.1 hs.2 D E _ cs _ cs w hR hw.kY;obtain⟨g1,g2⟩:=s4 E' (ak.refl _ _);subst g2;exact⟨.returned (ab E' v),w',fr',⟨_,rfl,uu g1 f2 hsim,⟨s8.os,s8.tape,s8.output,s8.size,s8.block⟩,s8.drawn⟩,s1,s2,s3⟩
theorem JH (ok:bw P tab) {f:FuncId} {C:aP} (hc:cf P tab f C) {fn:Func} {body:Code} (hfn:tab.fns.get f=some fn) (hb:fn.body=some body) {y:C.Y} (hy:C.pre y) {args:List Value} {w:World}
   (hs:PL (fun _=>none) (C.args y) (args.map (eH 0))) (hw:cV w):Calls P f args.toArray w (fun e w'=>∃v,e= .returned v/\Rd w' (fun b=>w.heap.size<=b) true (C.res y) v/\Below w.heap.size w w'/\((default:aF).dr->w.drawn<=w'.drawn)):=by
 intro cs;have hP:=ok.fns f fn hfn;let E:Env:=⟨fun i=>i,fun _=>0⟩
 let K:KS:=⟨fun b=>b<w.heap.size,0⟩
 have hR:Rel (fun _=>False) E K {fr:=af.enter fn f body (args.map (eH 0)) .normal,cs:=[],h:=eV} cs (Frame.enter P f args.toArray .normal) cs w:=by
   refine⟨fun E' _=>⟨Hj E' K w (fun b h=>h) (fun b h=>absurd h (A9 _)),?_,rfl⟩,fun i h=>h.elim,qq _ _ _ _ _,fun f hf=>by cases hf⟩;rw[<-mb hP hb,xr (fun i hi=>absurd hi (A9 _))]
 obtain⟨v,h',⟨Fz',_,f2,hsim,_,_,_,f3⟩,fr',w',v',E',D',s1,s2,s3,s4,s5,s6,s7,s8,s9,s10⟩:=hc fn body hfn hb y hy (fun _=>none) eV _ (fun _ _ h=>by cases h) (fun _ _ h=>by cases h) hs.1 hs.2 _ E K cs _ cs w hR (fun b hb=>⟨hw.lt hb,hw b hb⟩);obtain⟨g1,g2⟩:=s4 E' (ak.refl _ _);subst g2;refine⟨.returned (ab E' v),w',fr',⟨_,rfl,C3 g1 f2 (fun i o hi=>?_) hsim,⟨s8.os,s8.tape,s8.output,s8.size,s8.block⟩,s8.drawn⟩,s1,s2,s3⟩;have ho:=f2 i o hi;by_cases hro:o.ro
 . exact absurd (g1.im i o ho hro) (A9 _)
 . exact EV.1 (g1.nk i o ho hro)
end
end
section
universe u v
variable [Inhabited aF]
section
variable {P:Program} {tab:aZ}
end
end
section
universe u v
def fr0 (f:FuncId):Frame:={(default:Frame)with fn:=f,kind:= .normal}
def eS (P:Program) (f:FuncId) (l:List Item) (a:Act) (w:World) (R:Ending->World->Prop):Prop:=
 ∀cs,∃e w' fr,R e w'/\Comes P (lone ((fr0 f).at a l) cs w) (lone fr cs w') e/\fr.fn=f/\fr.leaving P w' e
theorem zU {P:Program} {f:FuncId} {fn:Func} {c:Code} {args:Array Value} {w:World} {R:Ending->World->Prop} (hf:P.funcs[f]? =some fn) (hb:fn.body=some c)
  (h:eS P f [.code c] {tmps:=args++Array.replicate (fn.ntmps - args.size) undef,defers:=[]} w R):Calls P f args w R:=by
 intro cs;have henter:Frame.enter P f args .normal=(fr0 f).at {tmps:=args++Array.replicate (fn.ntmps - args.size) undef,defers:=[]} [.code c]:=by
  simp[Frame.enter,Frame.at,hf,hb,fr0]
 rw[henter];exact h cs
theorem eS.steps {P:Program} {f:FuncId} {l l':List Item} {a a':Act} {w w':World} {R:Ending->World->Prop} (hs:∀cs,Steps P (lone ((fr0 f).at a l) cs w) (lone ((fr0 f).at a' l') cs w')) (h:eS P f l' a' w' R):eS P f l a w R:=by
 intro cs;obtain⟨e,w2,fr,h1,h2,h3⟩:=h cs;exact⟨e,w2,fr,h1,Comes.of_steps (hs cs) h2,h3⟩
def yC (P:Program) (f:FuncId) (fn:Func) (l:List Item) (R:Ending->World->Prop):Exit->Act->World->Prop
 | .normal,a,w=>eS P f l a w R
 | .ret,a,w=>a.defers=[]/\ ∃v,(results fn a.tmps).run P w= .ok v w/\R (.returned v) w
 |_,_,_=>False
theorem eS.code {P:Program} {f:FuncId} {fn:Func} {c:Code} {l:List Item} {a:Act} {w:World} {R:Ending->World->Prop} (hf:P.funcs[f]? =some fn) (h:c.wp P (yC P f fn l R) a w):eS P f (.code c::l) a w R:=by
 intro cs;obtain⟨e,a',w',hq,harr⟩:=h (fr0 f) l cs
 cases e with
 |normal=>
  obtain⟨e,w2,fr,h1,h2,h3⟩:=hq cs;exact⟨e,w2,fr,h1,Comes.of_steps harr h2,h3⟩
 |ret=>
  obtain⟨hd,v,hr,hR⟩:=hq;obtain⟨todo,hs⟩:=harr;exact⟨.returned v,w',_,hR,hs,rfl,rfl,hd,rfl,fn,hf,hr⟩
 |panic chain=>exact hq.elim
 |exit id=>exact hq.elim
 |goto l=>exact hq.elim
 |outgrown=>exact hq.elim
theorem eS.seq {P:Program} {f:FuncId} {x y:Code} {l:List Item} {a:Act} {w:World} {R:Ending->World->Prop} (h:eS P f (.code x:: .code y::l) a w R):eS P f (.code (.seq x y)::l) a w R:=
 h.steps fun _=> .one step_seq
theorem eS.nil {P:Program} {f:FuncId} {fn:Func} {a:Act} {w:World} {R:Ending->World->Prop} (hf:P.funcs[f]? =some fn) (hd:a.defers=[]) {v:Value} (hr:(results fn a.tmps).run P w= .ok v w) (hR:R (.returned v) w):eS P f [] a w R:=
 fun cs=>⟨.returned v,w,_,hR, .one step_end,rfl,rfl,hd,rfl,fn,hf,hr⟩
theorem eS.next {P:Program} {f:FuncId} {fn:Func} {x y:Code} {l:List Item} {a:Act} {w:World} {R:Ending->World->Prop} (hf:P.funcs[f]? =some fn) (h:x.wp P (yC P f fn (.code y::l) R) a w):eS P f (.code (.seq x y)::l) a w R:=
 .seq (.code hf h)
variable [Inhabited aF]
section
variable {P:Program} {tab:aZ} {cfg:iq}
def eZ (tab:aZ) (w:World) (tmps:Array Value) (ts:Fr):Prop:=∃avs:List AV,avs.length=tmps.size/\(∀E:Env,(∀i,i<w.heap.size->E.aQ i=i)->aY E avs=tmps.toList)/\ ∀t s,look ts t=some s->∃av,avs[t]? =some av/\aB ⟨fun _=>none,(bS tab w).get⟩ s av
theorem eZ.nil {w:World} {tmps:Array Value}:eZ tab w tmps []:=⟨tmps.toList.map (eH w.heap.size),by simp,fun E hE=>xr hE _,fun t s h=>by cases h⟩
theorem eZ.put {w:World} {tmps:Array Value} {ts:Fr} {t:Nat} {s:SV} {v:Value} {av:AV} (h1:tmps[t]? =some v) (hc:∀E:Env,(∀i,i<w.heap.size->E.aQ i=i)->ab E av=v) (h2:aI (bS tab w).get s av) (h:eZ tab w tmps ts):eZ tab w tmps ((t,s)::ts):=by
 obtain⟨avs,k0,k1,k2⟩:=h;have ht:t<avs.length:=by rw[k0];exact(Ac.1 h1).1
 refine⟨avs.set t av,by simpa using k0,fun E hE=>?_,fun t' s' hl=>?_⟩
 . apply B5
   intro j;have k:=Ax (fun l=>l[j]?) (k1 E hE);simp only[jD]at k⊢;rw[Ef];by_cases e:t=j
   . subst e;rw[if_pos rfl,if_pos ht,Bd,h1];simp[hc E hE]
   . rw[if_neg e];exact k
 . rw[jv]at hl;rw[Ef];by_cases e:t'=t
   . subst e;rw[if_pos rfl]at hl
     cases hl;exact⟨av,by rw[if_pos rfl,if_pos ht], .pure h2⟩
   . rw[if_neg e]at hl;obtain⟨av',h3,h4⟩:=k2 t' s' hl;exact⟨av',by rw[if_neg (fun h=>e h.symm)];exact h3,h4⟩
theorem eZ.cons {w:World} {tmps:Array Value} {ts:Fr} {t:Nat} {s:SV} {v:Value} (h1:tmps[t]? =some v) (h2:aI (bS tab w).get s (eH w.heap.size v)) (h:eZ tab w tmps ts):eZ tab w tmps ((t,s)::ts):=
 h.put h1 (fun E hE=>xC hE v) h2
theorem TD (pr:fI P tab) (htab:cfg.tab=tab) (hcon:∀g C,cfg.gm g=some C->cf P tab g C) {n:Nat} {f:FuncId} {c:Code} {a:Act} {w:World} {Q:SV->St->Prop} {Θ:Value->Prop} {ts:Fr} (hd:a.defers=[])
  (h:wp cfg n ⟨f,a.tmps.size,0,[.code c],⟨ts,⟨0,[]⟩,[]⟩⟩ Q) (hs:eZ tab w a.tmps ts) (hQ:∀sv s,Q sv s->∀C av E,aB C sv av->Θ (ab E av)) (hw:cV w):
  eS P f [.code c] a w (fun e w'=>(∃v,Θ v/\e= .returned v)/\Below w.heap.size w w'):=by
 obtain⟨avs,a0,a1,a2⟩:=hs;intro cs;let E:Env:=⟨fun i=>i,fun _=>0⟩
 let D:Nat->Prop:=fun i=>i<w.heap.size
 let fr:af:={fn:=f,nt:=a.tmps.size,tmps:=T.ofList avs,todo:=[.code c],defers:=[],mode:= .run,kind:= .normal,round:=none}
 have hdom:∀i o,(bS tab w).get i=some o->i<(bS tab w).next:=fun i o hi=>(oR tab w (E:=E) (fun _ _=>rfl)).eo i o hi
 have hgo:eC P {fr,cs:=[],h:=bS tab w} _:=(HV pr htab hcon (fun _ hrec=>Hi htab hrec hcon) n).2 f a.tmps.size 0 [.code c] ⟨ts,⟨0,[]⟩,[]⟩ Q ⟨fun _=>none,(bS tab w).get⟩ ⟨0,[]⟩ (bS tab w) (fun p I hp=>by cases hp) (fun p o hp=>by simp[SH.get,look]at hp)
  fr (bS tab w) h ⟨rfl,rfl,rfl,rfl,rfl,rfl⟩ (.code c .nil) ⟨⟨fun _=>none,(bS tab w).get⟩,fun t s hl=>by
    obtain⟨v,h1,h2⟩:=a2 t s hl;show aB _ s (((T.ofList avs).get t).getD (.bj []))
    rw[ku,h1];exact h2,⟨fun p o hp=>(by simp[SH.get,look]at hp),fun p q o o' I J hp=>(by simp[SH.get,look]at hp),fun i o hi=>hi,fun p o I hp=>(by simp[SH.get,look]at hp),fun p I hp=>(by cases hp),hdom⟩,Tr.refl _,Grow.refl _,cN.same _ _ _ _⟩
 have hag:∀E',ak D E E'->∀i,i<w.heap.size->E'.aQ i=i:=fun E' he i hi=>(he i hi).1
 have hconc:∀E',ak D E E'->bc E' fr=(fr0 f).at a [.code c]:=by
  intro E' he;have k1:=a1 E' (hag E' he);obtain⟨tm,df⟩:=a
  cases hd;unfold bc Frame.at fr0;simp only[fr,AP,D4,dL,fe,BV];congr 1
  apply Dg
  intro j;have k2:=Ax (fun l=>l[j]?) k1;simp only[jD,Bd]at k2;rw[tmps_get?,ku,<-k2];by_cases hj:j<tm.size
  . rw[if_pos hj,Ag (by rw[a0];exact hj)];simp
  . rw[if_neg hj,Bl (by rw[a0];show tm.size<=j;omega)];rfl
 have hR:Rel D E (KS.old w.heap.size) {fr,cs:=[],h:=bS tab w} cs ((fr0 f).at a [.code c]) cs w:=by
  refine⟨fun E' he=>⟨oR tab w (hag E' he),hconc E' he,rfl⟩,fun i h=>h,fun t ht=>?_,fun f hf=>by cases hf⟩;show(T.ofList avs).get t=none
  have ht:a.tmps.size<=t:=ht;rw[ku,Bl (by rw[a0];exact ht)]
 obtain⟨v,h',⟨sv,s',C',hq,hsv,_⟩,fr',w',v',E',D',s1,s2,s3,s4,s5,s6,s7,s8,s9,s10⟩:=hgo D E _ cs _ cs w hR hw.kY;obtain⟨_,g2⟩:=s4 E' (ak.refl _ _);subst g2;exact⟨.returned (ab E' v),w',fr',⟨⟨_,hQ sv s' hq C' v E' hsv,rfl⟩,s8.os,s8.tape,s8.output,s8.size,s8.block⟩,s1,s2,s3⟩
theorem Jw (pr:fI P tab) (htab:cfg.tab=tab) (hcon:∀g C,cfg.gm g=some C->cf P tab g C) {n:Nat} {f:FuncId} {c:Code} {a:Act} {w:World} {ts:Fr} (hd:a.defers=[])
  (h:wp cfg n ⟨f,a.tmps.size,0,[.code c],⟨ts,⟨0,[]⟩,[]⟩⟩ tC) (hs:eZ tab w a.tmps ts) (hw:cV w):
  eS P f [.code c] a w (fun e w'=>e= .returned (.bool true)/\Below w.heap.size w w'):=by
 have:=TD (Θ:=fun v=>v= .bool true) pr htab hcon hd h hs (fun sv s hq C av E hsv=>by
  unfold tC at hq;split at hq
  . rw[hq]at hsv;rw[lv hsv];rfl
  . exact hq.elim) hw
 intro cs;obtain⟨e,w',fr,⟨⟨v,rfl,he⟩,hb⟩,h2⟩:=this cs;exact⟨e,w',fr,⟨he,hb⟩,h2⟩
end
end
end Go.Sy
namespace Go.Proofs
open Go Go.Am Go.RowKit Go.Sy
abbrev Bs:=List UInt8
def nB (b:UInt8):Int:=Int.ofNat b.toNat
def eR (s:Bs):List SV:=[.str s]
def cr (s:Bs) (c:Int):Option Nat:=s.findIdx? (fun b=>nB b==c)
def gI (s:Bs) (c:Int):Int:=match cr s c with|some i=>(i:Int)|none=> -1
def dy (s:Bs) (c:Int):Bs×Bs×Bool:=match cr s c with|some i=>(s.take i,s.drop (i+1),true)|none=>(s,[],false)
def aO:Bs->Int->List Bs
 |[],_=>[[]]
 |b::s,c=>if nB b=c then[]::aO s c else match aO s c with
  |h::t=>(b::h)::t
  |[]=>[[b]]
def cX (b:UInt8):Bool:=decide (48<=nB b)&&decide (nB b<=57)
def cL (s:Bs):Nat:=(s.takeWhile cX).length
def bK (n:Int) (b:UInt8):Int:=min (n*10+(nB b - 48)) 1099511627776
def cj (s:Bs):Bool:=match s with|b::_=>nB b==45|[]=>false
def aq (s:Bs):Bs:=if cj s then s.drop 1 else s
def aX (s:Bs):Int×Bool:=if aq s=[]\/cL (aq s)<(aq s).length then(0,false)else((if cj s then -1 else 1)*(aq s).foldl bK 0,true)
def kp:Nat->Nat->Bs
 |0,_=>[]
 |k+1,n=>if n<=9 then[UInt8.ofNat (48+n)]else kp k (n / 10)++[UInt8.ofNat (48+n % 10)]
def iN (n:Nat):Bs:=kp 40 n
def gB (b:UInt8):Bool:=(decide (97<=nB b)&&decide (nB b<=122))||(decide (48<=nB b)&&decide (nB b<=57))||nB b==45||nB b==95
def fO (c:Int) (e:Bool):Bool:=if c=45 then !e else(decide (97<=c)&&decide (c<=122))||(decide (48<=c)&&decide (c<=57))||c==95
def eI (s:Bs):Bool:=s !=[]&&decide (s.length<=63)&&s.all gB&&s.head? !=some 45&&s.getLast? !=some 45
def gf (p:Bs):Bool:=p !=[]&&decide (cL p=p.length)&&decide ((aX p).1<=255)&& !(decide (1<p.length)&&p.head? ==some 48)
def fi (s:Bs):Bool:=decide ((aO s 46).length=4)&&(aO s 46).all gf
def cJ (b:UInt8):Bool:=(decide (48<=nB b)&&decide (nB b<=57))||(decide (97<=nB b)&&decide (nB b<=102))||nB b==58||nB b==46
def eT (s:Bs):Bool:=decide (4<=s.length)&&decide (s.length<=47)&&s.head? ==some 91&&s.getLast? ==some 93&&((s.drop 1).take (s.length - 2)).all cJ
def gA (s:Bs):Bool:=fi s||eT s
def fp (s:Bs):Bool:=decide (s.length<=256)&& !fi s&&(aO s 46).all eI
theorem sI {a b:UInt8} (h:nB a=nB b):a=b:=by
 unfold nB at h;exact El.1 (Int.ofNat.inj h)
theorem eP {s:Bs} {c:Int} {i:Nat}:cr s c=some i↔∃h:i<s.length,nB s[i]=c/\ ∀j (hj:j<i),nB (s[j]'(by omega))≠c:=by
 unfold cr;rw[EC];constructor
 . rintro⟨h,h1,h2⟩;exact⟨h,by simpa using h1,fun j hj=>by simpa using h2 j hj⟩
 . rintro⟨h,h1,h2⟩;exact⟨h,by simpa using h1,fun j hj=>by simpa using h2 j hj⟩
theorem iu {s:Bs} {c:Int}:cr s c=none↔∀j (hj:j<s.length),nB s[j]≠c:=by
 unfold cr;rw[List.findIdx?_eq_none_iff];constructor
 . intro h j hj;simpa using h s[j] (AF hj)
 . intro h x hx;obtain⟨j,hj,rfl⟩:=BB hx;simpa using h j hj
theorem MV (s:Bs) (c:Int):aO s c≠[]:=by
 cases s with
 |nil=>simp[aO]
 |cons b s=>
  simp only[aO];split
  . simp
  . split<;>simp
theorem uj (s:Bs) (c:Int):aO s c=match cr s c with|some i=>s.take i::aO (s.drop (i+1)) c|none=>[s]:=by
 induction s with
 |nil=>simp[aO,cr]
 |cons b s ih=>
  by_cases hb:nB b=c
  . simp[aO,cr,List.findIdx?_cons,hb]
  . have h2:cr (b::s) c=(cr s c).map (· +1):=by simp[cr,List.findIdx?_cons,hb]
    simp only[aO,if_neg hb,h2];rw[ih]
    cases hp:cr s c with
    |none=>simp
    |some i=>simp
theorem xp (s:Bs) (c:Int):(aO s c).length<=s.length+1:=by
 induction s with
 |nil=>simp[aO]
 |cons b s ih=>
  simp only[aO];split
  . simp;omega
  . split
    . rename_i h t he;rw[he]at ih;simp at ih⊢;omega
    . simp
theorem K7 (s:Bs) (c:Int):∀p∈aO s c,p.length<=s.length:=by
 induction s with
 |nil=>simp[aO]
 |cons b s ih=>
  intro p hp;simp only[aO]at hp;split at hp
  . rcases Aj.1 hp with rfl|hp
    . simp
    . have:=ih p hp;simp;omega
  . split at hp
    . rename_i h t he;rw[he]at ih;rcases Aj.1 hp with rfl|hp
      . have:=ih h Ao;simp;omega
      . have:=ih p (An _ hp);simp;omega
    . simp at hp;subst hp;simp
theorem uE (s:Bs):cL s<=s.length:=(Em _).length_le
theorem ue {s:Bs} (h:¬cL s<s.length):∀b∈s,cX b=true:=by
 have h1:cL s=s.length:=Nat.le_antisymm (uE s) (DQ h);unfold cL at h1;have h2:s.takeWhile cX=s:=List.IsPrefix.eq_of_length (Em _) h1;intro b hb;rw[<-h2]at hb;exact AE.1 (List.all_takeWhile ..) b hb
theorem FK {s:Bs} {j:Nat} (hj:j<cL s):∃h:j<s.length,cX s[j]=true:=by
 induction s generalizing j with
 |nil=>simp[cL]at hj
 |cons b s ih=>
  by_cases hb:cX b=true
  . have hd:cL (b::s)=cL s+1:=by simp[cL,BA,hb]
    cases j with
    |zero=>exact⟨by simp,by simpa using hb⟩
    |succ j=>
     obtain⟨h1,h2⟩:=ih (j:=j) (by omega);exact⟨by simpa using h1,by simpa using h2⟩
  . have hd:cL (b::s)=0:=by simp[cL,BA,hb]
    omega
theorem ya {s:Bs} (h:cL s<s.length):cX (s[cL s])=false:=by
 induction s with
 |nil=>simp at h
 |cons b s ih=>
  by_cases hb:cX b=true
  . have hd:cL (b::s)=cL s+1:=by simp[cL,BA,hb]
    simp only[hd,Fg];exact ih (by rw[hd]at h;simpa using h)
  . have hd:cL (b::s)=0:=by simp[cL,BA,hb]
    simp only[hd,Ff];exact AN.2 hb
theorem nQ (b:UInt8):cX b=true↔48<=nB b/\nB b<=57:=by simp[cX]
theorem K8 {n:Int} {b:UInt8} (hn:0<=n) (hb:cX b=true):0<=bK n b/\bK n b<=1099511627776:=by
 rw[nQ]at hb;unfold bK;omega
theorem Cv (s:Bs) (h:∀b∈s,cX b=true):∀n:Int,0<=n->n<=1099511627776->0<=s.foldl bK n/\s.foldl bK n<=1099511627776:=by
 induction s with
 |nil=>intro n h1 h2;exact⟨h1,h2⟩
 |cons b s ih=>
  intro n h1 h2;have:=K8 h1 (h b Ao);exact ih (fun c hc=>h c (An _ hc)) _ this.1 this.2
section
variable [Inhabited aF]
noncomputable def TG:TypeId->Option View:=fun t=>bif Nat.beq t Ty.string then some ⟨Bs,eR⟩else none
noncomputable def bQ (gm:FuncId->Option aP) (kW:FuncId->Nat->Option aK):iq:={tab:=pc,view:=TG,gm,kW}
def dM {Y:Type}:Y->FuncId->Nat->Option aK:=fun _ _ _=>none
def cS (f r:Nat) (A:aK):FuncId->Nat->Option aK:=fun g s=>bif Nat.beq g f&&Nat.beq s r then some A else none
def i64 (n:Int):SV:= .int .i64 n
def strs (l:List Bs):SV:= .aJ Bs l eR
def qR:aP:={Y:=Bs×Int,pre:=fun y=>y.1.length<=1000000,args:=fun y=>[.str y.1, .int .u8 y.2],res:=fun y=>i64 (gI y.1 y.2)}
def vL (y:Bs×Int):aK:={α:=Nat,ok:=fun i=>i<=y.1.length/\ ∀j (h:j<y.1.length),j<i->nB y.1[j]≠y.2,μ:=fun i=>y.1.length - i,aU:=[],aR:=fun i=>[(0, .str y.1),(1, .int .u8 y.2),(5,i64 (-1)),(8,i64 (Int.ofNat y.1.length)),(9,i64 i)],bD:=fun _=>[]}
def oq:aP:={Y:=Bs×Int,pre:=fun y=>y.1.length<=1000000,args:=fun y=>[.str y.1, .int .u8 y.2],res:=fun y=> .bj [.str (dy y.1 y.2).1, .str (dy y.1 y.2).2.1, .bool (dy y.1 y.2).2.2]}
def qH:aP:={Y:=Bs×Int,pre:=fun y=>y.1.length<=100000,args:=fun y=>[.str y.1, .int .u8 y.2],res:=fun y=>strs (aO y.1 y.2)}
def vw (y:Bs×Int):aK:={α:=Bs×List Bs,ok:=fun x=>aO y.1 y.2=x.2++aO x.1 y.2/\x.2.length+x.1.length<=y.1.length,μ:=fun x=>x.1.length,aU:=[],aR:=fun x=>[(0, .str x.1),(1, .int .u8 y.2),(5, .own 0)],bD:=fun x=>[(0, .arr Bs x.2 eR Ty.string)]}
def ot:aP:={Y:=UInt8,pre:=fun _=>True,args:=fun y=>[.int .u8 (nB y)],res:=fun y=> .bool (cX y)}
def qQ:aP:={Y:=Bs,pre:=fun y=>y.length<=1000000,args:=fun y=>[.str y],res:=fun y=>i64 (cL y)}
def vK (y:Bs):aK:={α:=Nat,ok:=fun i=>i<=cL y,μ:=fun i=>y.length - i,aU:=[],aR:=fun i=>[(0, .str y),(3,i64 i)],bD:=fun _=>[]}
def j8:aP:={Y:=Bs,pre:=fun y=>y.length<=1000000,args:=fun y=>[.str y],res:=fun y=> .bj [i64 (aX y).1, .bool (aX y).2]}
def ib (y:Bs):aK:={α:=Nat,ok:=fun i=>i<=(aq y).length/\ ∀b∈aq y,cX b=true,μ:=fun i=>(aq y).length - i,aU:=[],aR:=fun i=>[(4, .str (aq y)),(5,i64 (if cj y then -1 else 1)),(6,i64 (((aq y).take i).foldl bK 0)),(28,i64 (Int.ofNat (aq y).length)),(29,i64 i)],bD:=fun _=>[]}
def vr (y:Bs×Int):aK:={α:=Nat,ok:=fun i=>i<=y.1.length/\ ∀j (h:j<y.1.length),j<i->nB y.1[j]≠y.2,μ:=fun i=>y.1.length - i,aU:=[],aR:=fun i=>[(0, .str y.1),(1, .int .u8 y.2),(5,i64 i)],bD:=fun _=>[]}
def qB (y:Bs×Int):aK:={α:=Nat×Nat×List Bs,ok:=fun x=>x.1<=x.2.1/\x.2.1<=y.1.length/\aO y.1 y.2=x.2.2++aO (y.1.drop x.1) y.2/\x.2.2.length<=x.1/\ ∀j (h:j<y.1.length),x.1<=j->j<x.2.1->nB y.1[j]≠y.2,μ:=fun x=>y.1.length - x.2.1,aU:=[],aR:=fun x=>[(0, .str y.1),(1, .int .u8 y.2),(5, .own 0),(6,i64 x.1),(7,i64 x.2.1)],bD:=fun x=>[(0, .arr Bs x.2.2 eR Ty.string)]}
def kJ (y:Bs):aK:={α:=Nat,ok:=fun i=>i<=y.length,μ:=fun i=>y.length - i,aU:=[],aR:=fun i=>[(0, .str y),(3,i64 (Int.ofNat (min i (cL y)))),(4,i64 i)],bD:=fun _=>[]}
def bF (y:Bs):Nat:=if cj y then 1 else 0
def iz (y:Bs):aK:={α:=Nat,ok:=fun i=>bF y<=i/\i<=y.length/\ ∀b∈aq y,cX b=true,μ:=fun i=>y.length - i,aU:=[],aR:=fun i=>[(0, .str y),(4,i64 (Int.ofNat (bF y))),(5,i64 (((aq y).take (i - bF y)).foldl bK 0)),(6,i64 i)],bD:=fun _=>[]}
def y8:aP:={Y:=Nat,pre:=fun y=>y<=1099511627776,args:=fun y=>[i64 y],res:=fun y=> .str (iN y)}
def vX (y:Nat):aK:={α:=Nat×Nat×Bs,ok:=fun x=>x.1<=30/\x.2.2.length<=30/\iN y=kp (10+x.1) x.2.1++x.2.2/\x.2.2.length+x.1<=30/\x.2.1<10 ^ (x.1+1)/\x.2.1<=y,μ:=fun x=>x.2.1,aU:=[],aR:=fun x=>[(0,i64 x.2.1),(3, .str x.2.2)],bD:=fun _=>[]}
noncomputable def wh (f:FuncId):Option aP:=bif Nat.beq f lR then some qR else none
noncomputable def wi (f:FuncId):Option aP:=bif Nat.beq f pS then some oq else wh f
noncomputable def wj (f:FuncId):Option aP:=bif Nat.beq f lO then some qH else bif Nat.beq f pA then some ot else wi f
noncomputable def qT (f:FuncId):Option aP:=bif Nat.beq f lJ then some qQ else bif Nat.beq f lM then some qQ else wj f
noncomputable def I3 (f:FuncId):Option aP:=bif Nat.beq f lK then some j8 else bif Nat.beq f lN then some j8 else bif Nat.beq f lT then some qR else bif Nat.beq f lP then some qH else bif Nat.beq f lU then some y8 else qT f
noncomputable def di (_:FuncId):Option aP:=none
end
section
variable [Inhabited aF]
theorem Q9:(dh (fun(y:aP.Y qR)=>bQ di (cS lR 3 (vL y))) 400 lR)=(∀(y:Bs×Int),
 y.1.length<=1000000->
 (∃(x:Nat),
 (x<=y.1.length/\ ∀(j:Nat) (h:j<y.1.length),j<x->az (nB y.1[j]) y.2->False)/\
 (y.1=y.1/\
 az y.2 y.2/\
 az (-1) (-1)/\az (Int.ofNat y.1.length) (Int.ofNat y.1.length)/\az 0 ↑x/\True)/\
 True/\True)/\
 ∀(x:Nat),
 (x<=y.1.length/\ ∀(j:Nat) (h:j<y.1.length),j<x->az (nB y.1[j]) y.2->False)->
 br (bV (↑x) (Int.ofNat y.1.length))
 (so y.1[Int.toNat ↑x]? fun(val:UInt8)=>
 br (Int.ofNat (UInt8.toNat val)==y.2) (az (↑x) (gI y.1 y.2)/\True)
 (ck (bC .i64 (↑x+1))
 (∃(y_1:Nat),
 (y_1<=y.1.length/\ ∀(j:Nat) (h:j<y.1.length),j<y_1->az (nB y.1[j]) y.2->False)/\
 aK.μ (vL y) y_1<aK.μ (vL y) x/\
 (y.1=y.1/\
 az y.2 y.2/\
 az (-1) (-1)/\az (Int.ofNat y.1.length) (Int.ofNat y.1.length)/\az (↑x+1) ↑y_1/\True)/\
 True/\True)))
 (az (-1) (gI y.1 y.2)/\True)):=by kernel_rfl
theorem R3:(dh (fun(y:aP.Y oq)=>bQ wh (dM y)) 400 pS)=(∀(y:Bs×Int),
 y.1.length<=1000000->
 ∃(y_1:Bs×Int),
 y.1=y_1.1/\
 az y.2 y_1.2/\
 y_1.1.length<=1000000/\
 br (bV (gI y_1.1 y_1.2) 0)
 (y.1=Prod.fst (dy y.1 y.2)/\
 Array.toList (ByteArray.data {data:=#[]})=Prod.fst (Prod.snd (dy y.1 y.2))/\
 false=Prod.snd (Prod.snd (dy y.1 y.2))/\True)
 (ck (nn (gI y_1.1 y_1.2))
 (ck (Nat.ble (Int.toNat (gI y_1.1 y_1.2)) y.1.length)
 (ck (bC .i64 (gI y_1.1 y_1.2+1))
 (ck (nn (gI y_1.1 y_1.2+1))
 (ck (Nat.ble (Int.toNat (gI y_1.1 y_1.2+1)) y.1.length)
 (List.take (Int.toNat (gI y_1.1 y_1.2)) y.1=Prod.fst (dy y.1 y.2)/\
 List.drop (Int.toNat (gI y_1.1 y_1.2+1)) y.1=Prod.fst (Prod.snd (dy y.1 y.2))/\
 true=Prod.snd (Prod.snd (dy y.1 y.2))/\True))))))):=by kernel_rfl
theorem Qr:(dh (fun(y:aP.Y qH)=>bQ wi (cS lO 2 (vw y))) 400 lO)=(∀(y:Bs×Int),
 y.1.length<=100000->
 (∃(x:Bs×List Bs),
 (aO y.1 y.2=x.2++aO x.1 y.2/\
 x.2.length+x.1.length<=y.1.length)/\
 (y.1=x.1/\az y.2 y.2/\True/\True)/\
 ((x.2=[]/\ ∀(x:Bs),List.length (eR x)=1)/\True)/\True)/\
 ∀(x:Bs×List Bs),
 aO y.1 y.2=x.2++aO x.1 y.2/\
 x.2.length+x.1.length<=y.1.length->
 ∃(y_1:Bs×Int),
 x.1=y_1.1/\
 az y.2 y_1.2/\
 y_1.1.length<=1000000/\
 ∃(x_1:Bs),
 [SV.str x_1]=[SV.str (Prod.fst (dy y_1.1 y_1.2))]/\
 ck (Nat.ble ((x.2.length+List.length [x_1])*16) 16777216&&Nat.ble (x.2.length+List.length [x_1]) 16777216)
 (br (!Prod.snd (Prod.snd (dy y_1.1 y_1.2)))
 (SV.aJ Bs (x.2++[x_1]) eR=SV.aJ Bs (aO y.1 y.2) eR/\
 True)
 (∃(y_2:Bs×List Bs),
 (aO y.1 y.2=y_2.2++aO y_2.1 y.2/\
 y_2.2.length+y_2.1.length<=y.1.length)/\
 aK.μ (vw y) y_2<aK.μ (vw y) x/\
 (Prod.fst (Prod.snd (dy y_1.1 y_1.2))=y_2.1/\az y.2 y.2/\True/\True)/\
 (SV.aJ Bs (x.2++[x_1]) eR=SV.aJ Bs y_2.2 eR/\True)/\True))):=by kernel_rfl
theorem R4:(dh (fun(y:aP.Y ot)=>bQ di (dM y)) 400 pA)=(∀(y:UInt8),True->br (bG 48 (nB y)) (bG (nB y) 57=cX y/\True) (false=cX y/\True)):=by kernel_rfl
theorem Q8:(dh (fun(y:aP.Y qQ)=>bQ wj (cS lJ 2 (vK y))) 400 lJ)=(∀(y:List UInt8),
 y.length<=1000000->
 (∃(x:Nat),x<=cL y/\(y=y/\az 0 ↑x/\True)/\True/\True)/\
 ∀(x:Nat),
 x<=cL y->
 br (bV (↑x) (Int.ofNat y.length))
 (so y[Int.toNat ↑x]? fun(val:UInt8)=>
 ∃(y_1:UInt8),
 az (Int.ofNat (UInt8.toNat val)) (nB y_1)/\
 True/\
 br (cX y_1)
 (ck (bC .i64 (↑x+1))
 (∃(y_2:Nat),
 y_2<=cL y/\
 aK.μ (vK y) y_2<aK.μ (vK y) x/\(y=y/\az (↑x+1) ↑y_2/\True)/\True/\True))
 (az ↑x ↑(cL y)/\True))
 (az ↑x ↑(cL y)/\True)):=by kernel_rfl
theorem R5:(dh (fun(y:aP.Y j8)=>bQ qT (cS lK 8 (ib y))) 400 lK)=(∀(y:List UInt8),
 y.length<=1000000->
 br (!y==Array.toList (ByteArray.data {data:=#[]}))
 (so y[Int.toNat 0]? fun(val:UInt8)=>
 br (Int.ofNat (UInt8.toNat val)==45)
 (ck (Nat.ble (Int.toNat 1) y.length)
 (br (List.drop (Int.toNat 1) y==Array.toList (ByteArray.data {data:=#[]}))
 (az 0 (Prod.fst (aX y))/\false=Prod.snd (aX y)/\True)
 (∃(y_1:List UInt8),
 List.drop (Int.toNat 1) y=y_1/\
 y_1.length<=1000000/\
 br (bV (↑(cL y_1)) (Int.ofNat (List.length (List.drop (Int.toNat 1) y))))
 (az 0 (Prod.fst (aX y))/\false=Prod.snd (aX y)/\True)
 ((∃(x:Nat),
 (x<=List.length (aq y)/\ ∀(b:UInt8),b∈aq y->cX b=true)/\
 (List.drop (Int.toNat 1) y=aq y/\
 az (-1) (if cj y=true then -1 else 1)/\
 az 0 (List.foldl bK 0 (List.take x (aq y)))/\
 az (Int.ofNat (List.length (List.drop (Int.toNat 1) y))) (Int.ofNat (List.length (aq y)))/\az 0 ↑x/\True)/\
 True/\True)/\
 ∀(x:Nat),
 (x<=List.length (aq y)/\ ∀(b:UInt8),b∈aq y->cX b=true)->
 br (bV (↑x) (Int.ofNat (List.length (aq y))))
 (ck (bC .i64 (List.foldl bK 0 (List.take x (aq y))*10))
 (so (aq y)[Int.toNat ↑x]? fun(val:UInt8)=>
 ck
 (bC .i64
 (List.foldl bK 0 (List.take x (aq y))*10+
 Go.IntKind.wrap .i64 (Go.IntKind.wrap Go.IntKind.u8 (Int.ofNat (UInt8.toNat val) - 48))))
 (ck (bC .i64 (↑x+1))
 (∃(y_2:Nat),
 (y_2<=List.length (aq y)/\ ∀(b:UInt8),b∈aq y->cX b=true)/\
 aK.μ (ib y) y_2<aK.μ (ib y) x/\
 (aq y=aq y/\
 az (if cj y=true then -1 else 1) (if cj y=true then -1 else 1)/\
 az
 (if
 1099511627776<
 List.foldl bK 0 (List.take x (aq y))*10+
 Go.IntKind.wrap .i64 (Go.IntKind.wrap Go.IntKind.u8 (Int.ofNat (UInt8.toNat val) - 48))then
 1099511627776
 else
 List.foldl bK 0 (List.take x (aq y))*10+
 Go.IntKind.wrap .i64 (Go.IntKind.wrap Go.IntKind.u8 (Int.ofNat (UInt8.toNat val) - 48)))
 (List.foldl bK 0 (List.take y_2 (aq y)))/\
 az (Int.ofNat (List.length (aq y))) (Int.ofNat (List.length (aq y)))/\
 az (↑x+1) ↑y_2/\True)/\
 True/\True))))
 (ck
 (bC .i64 ((if cj y=true then -1 else 1)*List.foldl bK 0 (List.take x (aq y))))
 (az ((if cj y=true then -1 else 1)*List.foldl bK 0 (List.take x (aq y)))
 (Prod.fst (aX y))/\
 true=Prod.snd (aX y)/\True))))))
 (br (y==Array.toList (ByteArray.data {data:=#[]})) (az 0 (Prod.fst (aX y))/\false=Prod.snd (aX y)/\True)
 (∃(y_1:List UInt8),
 y=y_1/\
 y_1.length<=1000000/\
 br (bV (↑(cL y_1)) (Int.ofNat y.length))
 (az 0 (Prod.fst (aX y))/\false=Prod.snd (aX y)/\True)
 ((∃(x:Nat),
 (x<=List.length (aq y)/\ ∀(b:UInt8),b∈aq y->cX b=true)/\
 (y=aq y/\
 az 1 (if cj y=true then -1 else 1)/\
 az 0 (List.foldl bK 0 (List.take x (aq y)))/\
 az (Int.ofNat y.length) (Int.ofNat (List.length (aq y)))/\az 0 ↑x/\True)/\
 True/\True)/\
 ∀(x:Nat),
 (x<=List.length (aq y)/\ ∀(b:UInt8),b∈aq y->cX b=true)->
 br (bV (↑x) (Int.ofNat (List.length (aq y))))
 (ck (bC .i64 (List.foldl bK 0 (List.take x (aq y))*10))
 (so (aq y)[Int.toNat ↑x]? fun(val:UInt8)=>
 ck
 (bC .i64
 (List.foldl bK 0 (List.take x (aq y))*10+
 Go.IntKind.wrap .i64 (Go.IntKind.wrap Go.IntKind.u8 (Int.ofNat (UInt8.toNat val) - 48))))
 (ck (bC .i64 (↑x+1))
 (∃(y_2:Nat),
 (y_2<=List.length (aq y)/\ ∀(b:UInt8),b∈aq y->cX b=true)/\
 aK.μ (ib y) y_2<aK.μ (ib y) x/\
 (aq y=aq y/\
 az (if cj y=true then -1 else 1) (if cj y=true then -1 else 1)/\
 az
 (if
 1099511627776<
 List.foldl bK 0 (List.take x (aq y))*10+
 Go.IntKind.wrap .i64 (Go.IntKind.wrap Go.IntKind.u8 (Int.ofNat (UInt8.toNat val) - 48))then
 1099511627776
 else
 List.foldl bK 0 (List.take x (aq y))*10+
 Go.IntKind.wrap .i64 (Go.IntKind.wrap Go.IntKind.u8 (Int.ofNat (UInt8.toNat val) - 48)))
 (List.foldl bK 0 (List.take y_2 (aq y)))/\
 az (Int.ofNat (List.length (aq y))) (Int.ofNat (List.length (aq y)))/\
 az (↑x+1) ↑y_2/\True)/\
 True/\True))))
 (ck (bC .i64 ((if cj y=true then -1 else 1)*List.foldl bK 0 (List.take x (aq y))))
 (az ((if cj y=true then -1 else 1)*List.foldl bK 0 (List.take x (aq y)))
 (Prod.fst (aX y))/\
 true=Prod.snd (aX y)/\True))))))
 (br (y==Array.toList (ByteArray.data {data:=#[]})) (az 0 (Prod.fst (aX y))/\false=Prod.snd (aX y)/\True)
 (∃(y_1:List UInt8),
 y=y_1/\
 y_1.length<=1000000/\
 br (bV (↑(cL y_1)) (Int.ofNat y.length))
 (az 0 (Prod.fst (aX y))/\false=Prod.snd (aX y)/\True)
 ((∃(x:Nat),
 (x<=List.length (aq y)/\ ∀(b:UInt8),b∈aq y->cX b=true)/\
 (y=aq y/\
 az 1 (if cj y=true then -1 else 1)/\
 az 0 (List.foldl bK 0 (List.take x (aq y)))/\
 az (Int.ofNat y.length) (Int.ofNat (List.length (aq y)))/\az 0 ↑x/\True)/\
 True/\True)/\
 ∀(x:Nat),
 (x<=List.length (aq y)/\ ∀(b:UInt8),b∈aq y->cX b=true)->
 br (bV (↑x) (Int.ofNat (List.length (aq y))))
 (ck (bC .i64 (List.foldl bK 0 (List.take x (aq y))*10))
 (so (aq y)[Int.toNat ↑x]? fun(val:UInt8)=>
 ck
 (bC .i64
 (List.foldl bK 0 (List.take x (aq y))*10+
 Go.IntKind.wrap .i64 (Go.IntKind.wrap Go.IntKind.u8 (Int.ofNat (UInt8.toNat val) - 48))))
 (ck (bC .i64 (↑x+1))
 (∃(y_2:Nat),
 (y_2<=List.length (aq y)/\ ∀(b:UInt8),b∈aq y->cX b=true)/\
 aK.μ (ib y) y_2<aK.μ (ib y) x/\
 (aq y=aq y/\
 az (if cj y=true then -1 else 1) (if cj y=true then -1 else 1)/\
 az
 (if
 1099511627776<
 List.foldl bK 0 (List.take x (aq y))*10+
 Go.IntKind.wrap .i64 (Go.IntKind.wrap Go.IntKind.u8 (Int.ofNat (UInt8.toNat val) - 48))then
 1099511627776
 else
 List.foldl bK 0 (List.take x (aq y))*10+
 Go.IntKind.wrap .i64 (Go.IntKind.wrap Go.IntKind.u8 (Int.ofNat (UInt8.toNat val) - 48)))
 (List.foldl bK 0 (List.take y_2 (aq y)))/\
 az (Int.ofNat (List.length (aq y))) (Int.ofNat (List.length (aq y)))/\
 az (↑x+1) ↑y_2/\True)/\
 True/\True))))
 (ck (bC .i64 ((if cj y=true then -1 else 1)*List.foldl bK 0 (List.take x (aq y))))
 (az ((if cj y=true then -1 else 1)*List.foldl bK 0 (List.take x (aq y)))
 (Prod.fst (aX y))/\
 true=Prod.snd (aX y)/\True)))))):=by kernel_rfl
theorem Pk:(dh (fun(y:aP.Y qR)=>bQ di (cS lT 2 (vr y))) 400 lT)=(∀(y:Bs×Int),
 y.1.length<=1000000->
 (∃(x:Nat),
 (x<=y.1.length/\ ∀(j:Nat) (h:j<y.1.length),j<x->az (nB y.1[j]) y.2->False)/\
 (y.1=y.1/\az y.2 y.2/\az 0 ↑x/\True)/\True/\True)/\
 ∀(x:Nat),
 (x<=y.1.length/\ ∀(j:Nat) (h:j<y.1.length),j<x->az (nB y.1[j]) y.2->False)->
 br (bV (↑x) (Int.ofNat y.1.length))
 (so y.1[Int.toNat ↑x]? fun(val:UInt8)=>
 br (Int.ofNat (UInt8.toNat val)==y.2) (az (↑x) (gI y.1 y.2)/\True)
 (ck (bC .i64 (↑x+1))
 (∃(y_1:Nat),
 (y_1<=y.1.length/\ ∀(j:Nat) (h:j<y.1.length),j<y_1->az (nB y.1[j]) y.2->False)/\
 aK.μ (vr y) y_1<aK.μ (vr y) x/\
 (y.1=y.1/\az y.2 y.2/\az (↑x+1) ↑y_1/\True)/\True/\True)))
 (az (-1) (gI y.1 y.2)/\True)):=by kernel_rfl
theorem N3:(dh (fun(y:aP.Y qH)=>bQ di (cS lP 4 (qB y))) 400 lP)=(∀(y:Bs×Int),
 y.1.length<=100000->
 (∃(x:Nat×Nat×List Bs),
 (x.1<=x.2.1/\
 x.2.1<=y.1.length/\
 aO y.1 y.2=x.2.2++aO (List.drop x.1 y.1) y.2/\
 x.2.2.length<=x.1/\
 ∀(j:Nat) (h:j<y.1.length),x.1<=j->j<x.2.1->az (nB y.1[j]) y.2->False)/\
 (y.1=y.1/\az y.2 y.2/\True/\az 0 ↑x.1/\az 0 ↑x.2.1/\True)/\
 (SV.aJ (View.X {X:=Bs,enc:=eR}) [] (View.enc {X:=Bs,enc:=eR})=
 SV.aJ Bs x.2.2 eR/\
 True)/\
 True)/\
 ∀(x:Nat×Nat×List Bs),
 (x.1<=x.2.1/\
 x.2.1<=y.1.length/\
 aO y.1 y.2=x.2.2++aO (List.drop x.1 y.1) y.2/\
 x.2.2.length<=x.1/\
 ∀(j:Nat) (h:j<y.1.length),x.1<=j->j<x.2.1->az (nB y.1[j]) y.2->False)->
 br (bV (↑x.2.1) (Int.ofNat y.1.length))
 (so y.1[Int.toNat ↑x.2.1]? fun(val:UInt8)=>
 br (Int.ofNat (UInt8.toNat val)==y.2)
 (ck (Nat.ble (Int.toNat ↑x.1) (Int.toNat ↑x.2.1)&&Nat.ble (Int.toNat ↑x.2.1) y.1.length)
 (∃(x_1:Bs),
 [SV.str x_1]=
 [SV.str (List.take (Int.toNat ↑x.2.1 - Int.toNat ↑x.1) (List.drop (Int.toNat ↑x.1) y.1))]/\
 ck
 (Nat.ble ((x.2.2.length+List.length [x_1])*16) 16777216&&
 Nat.ble (x.2.2.length+List.length [x_1]) 16777216)
 (ck (bC .i64 (↑x.2.1+1))
 (ck (bC .i64 (↑x.2.1+1))
 (∃(y_1:Nat×Nat×List Bs),
 (y_1.1<=y_1.2.1/\
 y_1.2.1<=y.1.length/\
 aO y.1 y.2=y_1.2.2++aO (List.drop y_1.1 y.1) y.2/\
 y_1.2.2.length<=y_1.1/\
 ∀(j:Nat) (h:j<y.1.length),
 y_1.1<=j->j<y_1.2.1->az (nB y.1[j]) y.2->False)/\
 aK.μ (qB y) y_1<aK.μ (qB y) x/\
 (y.1=y.1/\
 az y.2 y.2/\
 True/\
 az (↑x.2.1+1) ↑y_1.1/\az (↑x.2.1+1) ↑y_1.2.1/\True)/\
 (SV.aJ Bs (x.2.2++[x_1]) eR=
 SV.aJ Bs y_1.2.2 eR/\
 True)/\
 True)))))
 (ck (bC .i64 (↑x.2.1+1))
 (∃(y_1:Nat×Nat×List Bs),
 (y_1.1<=y_1.2.1/\
 y_1.2.1<=y.1.length/\
 aO y.1 y.2=y_1.2.2++aO (List.drop y_1.1 y.1) y.2/\
 y_1.2.2.length<=y_1.1/\
 ∀(j:Nat) (h:j<y.1.length),
 y_1.1<=j->j<y_1.2.1->az (nB y.1[j]) y.2->False)/\
 aK.μ (qB y) y_1<aK.μ (qB y) x/\
 (y.1=y.1/\
 az y.2 y.2/\
 True/\az ↑x.1 ↑y_1.1/\az (↑x.2.1+1) ↑y_1.2.1/\True)/\
 (SV.aJ Bs x.2.2 eR=SV.aJ Bs y_1.2.2 eR/\True)/\True)))
 (ck (Nat.ble (Int.toNat ↑x.1) y.1.length)
 (∃(x_1:Bs),
 [SV.str x_1]=[SV.str (List.drop (Int.toNat ↑x.1) y.1)]/\
 ck
 (Nat.ble ((x.2.2.length+List.length [x_1])*16) 16777216&&
 Nat.ble (x.2.2.length+List.length [x_1]) 16777216)
 (SV.aJ Bs (x.2.2++[x_1]) eR=
 SV.aJ Bs (aO y.1 y.2) eR/\
 True)))):=by kernel_rfl
theorem Pj:(dh (fun(y:aP.Y qQ)=>bQ di (cS lM 3 (kJ y))) 400 lM)=(∀(y:List UInt8),
 y.length<=1000000->
 (∃(x:Nat),x<=y.length/\(y=y/\az 0 (Int.ofNat (Min.min x (cL y)))/\az 0 ↑x/\True)/\True/\True)/\
 ∀(x:Nat),
 x<=y.length->
 br (bV (↑x) (Int.ofNat y.length))
 (br (Int.ofNat (Min.min x (cL y))==↑x)
 (so y[Int.toNat ↑x]? fun(val:UInt8)=>
 br (bG 48 (Int.ofNat (UInt8.toNat val)))
 (so y[Int.toNat ↑x]? fun(val:UInt8)=>
 br (bG (Int.ofNat (UInt8.toNat val)) 57)
 (ck (bC .i64 (Int.ofNat (Min.min x (cL y))+1))
 (ck (bC .i64 (↑x+1))
 (∃(y_1:Nat),
 y_1<=y.length/\
 aK.μ (kJ y) y_1<aK.μ (kJ y) x/\
 (y=y/\az (Int.ofNat (Min.min x (cL y))+1) (Int.ofNat (Min.min y_1 (cL y)))/\az (↑x+1) ↑y_1/\True)/\
 True/\True)))
 (ck (bC .i64 (↑x+1))
 (∃(y_1:Nat),
 y_1<=y.length/\
 aK.μ (kJ y) y_1<aK.μ (kJ y) x/\
 (y=y/\az (Int.ofNat (Min.min x (cL y))) (Int.ofNat (Min.min y_1 (cL y)))/\az (↑x+1) ↑y_1/\True)/\
 True/\True)))
 (ck (bC .i64 (↑x+1))
 (∃(y_1:Nat),
 y_1<=y.length/\
 aK.μ (kJ y) y_1<aK.μ (kJ y) x/\
 (y=y/\az (Int.ofNat (Min.min x (cL y))) (Int.ofNat (Min.min y_1 (cL y)))/\az (↑x+1) ↑y_1/\True)/\
 True/\True)))
 (ck (bC .i64 (↑x+1))
 (∃(y_1:Nat),
 y_1<=y.length/\
 aK.μ (kJ y) y_1<aK.μ (kJ y) x/\
 (y=y/\az (Int.ofNat (Min.min x (cL y))) (Int.ofNat (Min.min y_1 (cL y)))/\az (↑x+1) ↑y_1/\True)/\
 True/\True)))
 (az (Int.ofNat (Min.min x (cL y))) ↑(cL y)/\True)):=by kernel_rfl
theorem QI:(dh (fun(y:aP.Y j8)=>bQ qT (cS lN 8 (iz y))) 400 lN)=(∀(y:List UInt8),
 y.length<=1000000->
 br (bV 0 (Int.ofNat y.length))
 (so y[Int.toNat 0]? fun(val:UInt8)=>
 br (Int.ofNat (UInt8.toNat val)==45)
 (br (Int.ofNat y.length==1) (az 0 (Prod.fst (aX y))/\false=Prod.snd (aX y)/\True)
 (ck (Nat.ble (Int.toNat 1) y.length)
 (∃(y_1:List UInt8),
 List.drop (Int.toNat 1) y=y_1/\
 y_1.length<=1000000/\
 ck (bC .i64 (Int.ofNat y.length - 1))
 (br (bV (↑(cL y_1)) (Int.ofNat y.length - 1))
 (az 0 (Prod.fst (aX y))/\false=Prod.snd (aX y)/\True)
 ((∃(x:Nat),
 (bF y<=x/\x<=y.length/\ ∀(b:UInt8),b∈aq y->cX b=true)/\
 (y=y/\
 az 1 (Int.ofNat (bF y))/\
 az 0 (List.foldl bK 0 (List.take (x - bF y) (aq y)))/\az 1 ↑x/\True)/\
 True/\True)/\
 ∀(x:Nat),
 (bF y<=x/\x<=y.length/\ ∀(b:UInt8),b∈aq y->cX b=true)->
 br (bV (↑x) (Int.ofNat y.length))
 (ck (bC .i64 (List.foldl bK 0 (List.take (x - bF y) (aq y))*10))
 (so y[Int.toNat ↑x]? fun(val:UInt8)=>
 ck
 (bC .i64
 (List.foldl bK 0 (List.take (x - bF y) (aq y))*10+
 Go.IntKind.wrap .i64 (Int.ofNat (UInt8.toNat val))))
 (ck
 (bC .i64
 (List.foldl bK 0 (List.take (x - bF y) (aq y))*10+
 Go.IntKind.wrap .i64 (Int.ofNat (UInt8.toNat val)) -
 48))
 (br
 (bV 1099511627776
 (List.foldl bK 0 (List.take (x - bF y) (aq y))*10+
 Go.IntKind.wrap .i64 (Int.ofNat (UInt8.toNat val)) -
 48))
 (ck (bC .i64 (↑x+1))
 (∃(y_2:Nat),
 (bF y<=y_2/\y_2<=y.length/\ ∀(b:UInt8),b∈aq y->cX b=true)/\
 aK.μ (iz y) y_2<aK.μ (iz y) x/\
 (y=y/\
 az (Int.ofNat (bF y)) (Int.ofNat (bF y))/\
 az 1099511627776 (List.foldl bK 0 (List.take (y_2 - bF y) (aq y)))/\
 az (↑x+1) ↑y_2/\True)/\
 True/\True))
 (ck (bC .i64 (↑x+1))
 (∃(y_2:Nat),
 (bF y<=y_2/\y_2<=y.length/\ ∀(b:UInt8),b∈aq y->cX b=true)/\
 aK.μ (iz y) y_2<aK.μ (iz y) x/\
 (y=y/\
 az (Int.ofNat (bF y)) (Int.ofNat (bF y))/\
 az
 (List.foldl bK 0 (List.take (x - bF y) (aq y))*10+
 Go.IntKind.wrap .i64 (Int.ofNat (UInt8.toNat val)) -
 48)
 (List.foldl bK 0 (List.take (y_2 - bF y) (aq y)))/\
 az (↑x+1) ↑y_2/\True)/\
 True/\True))))))
 (br (Int.ofNat (bF y)==1)
 (ck (bC .i64 (0 - List.foldl bK 0 (List.take (x - bF y) (aq y))))
 (az (0 - List.foldl bK 0 (List.take (x - bF y) (aq y))) (Prod.fst (aX y))/\
 true=Prod.snd (aX y)/\True))
 (az (List.foldl bK 0 (List.take (x - bF y) (aq y))) (Prod.fst (aX y))/\
 true=Prod.snd (aX y)/\True)))))))
 (br (Int.ofNat y.length==0) (az 0 (Prod.fst (aX y))/\false=Prod.snd (aX y)/\True)
 (∃(y_1:List UInt8),
 List.drop (Int.toNat 0) y=y_1/\
 y_1.length<=1000000/\
 ck (bC .i64 (Int.ofNat y.length - 0))
 (br (bV (↑(cL y_1)) (Int.ofNat y.length - 0))
 (az 0 (Prod.fst (aX y))/\false=Prod.snd (aX y)/\True)
 ((∃(x:Nat),
 (bF y<=x/\x<=y.length/\ ∀(b:UInt8),b∈aq y->cX b=true)/\
 (y=y/\
 az 0 (Int.ofNat (bF y))/\
 az 0 (List.foldl bK 0 (List.take (x - bF y) (aq y)))/\az 0 ↑x/\True)/\
 True/\True)/\
 ∀(x:Nat),
 (bF y<=x/\x<=y.length/\ ∀(b:UInt8),b∈aq y->cX b=true)->
 br (bV (↑x) (Int.ofNat y.length))
 (ck (bC .i64 (List.foldl bK 0 (List.take (x - bF y) (aq y))*10))
 (so y[Int.toNat ↑x]? fun(val:UInt8)=>
 ck
 (bC .i64
 (List.foldl bK 0 (List.take (x - bF y) (aq y))*10+
 Go.IntKind.wrap .i64 (Int.ofNat (UInt8.toNat val))))
 (ck
 (bC .i64
 (List.foldl bK 0 (List.take (x - bF y) (aq y))*10+
 Go.IntKind.wrap .i64 (Int.ofNat (UInt8.toNat val)) -
 48))
 (br
 (bV 1099511627776
 (List.foldl bK 0 (List.take (x - bF y) (aq y))*10+
 Go.IntKind.wrap .i64 (Int.ofNat (UInt8.toNat val)) -
 48))
 (ck (bC .i64 (↑x+1))
 (∃(y_2:Nat),
 (bF y<=y_2/\y_2<=y.length/\ ∀(b:UInt8),b∈aq y->cX b=true)/\
 aK.μ (iz y) y_2<aK.μ (iz y) x/\
 (y=y/\
 az (Int.ofNat (bF y)) (Int.ofNat (bF y))/\
 az 1099511627776 (List.foldl bK 0 (List.take (y_2 - bF y) (aq y)))/\
 az (↑x+1) ↑y_2/\True)/\
 True/\True))
 (ck (bC .i64 (↑x+1))
 (∃(y_2:Nat),
 (bF y<=y_2/\y_2<=y.length/\ ∀(b:UInt8),b∈aq y->cX b=true)/\
 aK.μ (iz y) y_2<aK.μ (iz y) x/\
 (y=y/\
 az (Int.ofNat (bF y)) (Int.ofNat (bF y))/\
 az
 (List.foldl bK 0 (List.take (x - bF y) (aq y))*10+
 Go.IntKind.wrap .i64 (Int.ofNat (UInt8.toNat val)) -
 48)
 (List.foldl bK 0 (List.take (y_2 - bF y) (aq y)))/\
 az (↑x+1) ↑y_2/\True)/\
 True/\True))))))
 (br (Int.ofNat (bF y)==1)
 (ck (bC .i64 (0 - List.foldl bK 0 (List.take (x - bF y) (aq y))))
 (az (0 - List.foldl bK 0 (List.take (x - bF y) (aq y))) (Prod.fst (aX y))/\
 true=Prod.snd (aX y)/\True))
 (az (List.foldl bK 0 (List.take (x - bF y) (aq y))) (Prod.fst (aX y))/\
 true=Prod.snd (aX y)/\True)))))))
 (br (Int.ofNat y.length==0) (az 0 (Prod.fst (aX y))/\false=Prod.snd (aX y)/\True)
 (∃(y_1:List UInt8),
 List.drop (Int.toNat 0) y=y_1/\
 y_1.length<=1000000/\
 ck (bC .i64 (Int.ofNat y.length - 0))
 (br (bV (↑(cL y_1)) (Int.ofNat y.length - 0))
 (az 0 (Prod.fst (aX y))/\false=Prod.snd (aX y)/\True)
 ((∃(x:Nat),
 (bF y<=x/\x<=y.length/\ ∀(b:UInt8),b∈aq y->cX b=true)/\
 (y=y/\
 az 0 (Int.ofNat (bF y))/\
 az 0 (List.foldl bK 0 (List.take (x - bF y) (aq y)))/\az 0 ↑x/\True)/\
 True/\True)/\
 ∀(x:Nat),
 (bF y<=x/\x<=y.length/\ ∀(b:UInt8),b∈aq y->cX b=true)->
 br (bV (↑x) (Int.ofNat y.length))
 (ck (bC .i64 (List.foldl bK 0 (List.take (x - bF y) (aq y))*10))
 (so y[Int.toNat ↑x]? fun(val:UInt8)=>
 ck
 (bC .i64
 (List.foldl bK 0 (List.take (x - bF y) (aq y))*10+
 Go.IntKind.wrap .i64 (Int.ofNat (UInt8.toNat val))))
 (ck
 (bC .i64
 (List.foldl bK 0 (List.take (x - bF y) (aq y))*10+
 Go.IntKind.wrap .i64 (Int.ofNat (UInt8.toNat val)) -
 48))
 (br
 (bV 1099511627776
 (List.foldl bK 0 (List.take (x - bF y) (aq y))*10+
 Go.IntKind.wrap .i64 (Int.ofNat (UInt8.toNat val)) -
 48))
 (ck (bC .i64 (↑x+1))
 (∃(y_2:Nat),
 (bF y<=y_2/\y_2<=y.length/\ ∀(b:UInt8),b∈aq y->cX b=true)/\
 aK.μ (iz y) y_2<aK.μ (iz y) x/\
 (y=y/\
 az (Int.ofNat (bF y)) (Int.ofNat (bF y))/\
 az 1099511627776 (List.foldl bK 0 (List.take (y_2 - bF y) (aq y)))/\
 az (↑x+1) ↑y_2/\True)/\
 True/\True))
 (ck (bC .i64 (↑x+1))
 (∃(y_2:Nat),
 (bF y<=y_2/\y_2<=y.length/\ ∀(b:UInt8),b∈aq y->cX b=true)/\
 aK.μ (iz y) y_2<aK.μ (iz y) x/\
 (y=y/\
 az (Int.ofNat (bF y)) (Int.ofNat (bF y))/\
 az
 (List.foldl bK 0 (List.take (x - bF y) (aq y))*10+
 Go.IntKind.wrap .i64 (Int.ofNat (UInt8.toNat val)) -
 48)
 (List.foldl bK 0 (List.take (y_2 - bF y) (aq y)))/\
 az (↑x+1) ↑y_2/\True)/\
 True/\True))))))
 (br (Int.ofNat (bF y)==1)
 (ck (bC .i64 (0 - List.foldl bK 0 (List.take (x - bF y) (aq y))))
 (az (0 - List.foldl bK 0 (List.take (x - bF y) (aq y))) (Prod.fst (aX y))/\
 true=Prod.snd (aX y)/\True))
 (az (List.foldl bK 0 (List.take (x - bF y) (aq y))) (Prod.fst (aX y))/\
 true=Prod.snd (aX y)/\True))))))):=by kernel_rfl
theorem QK:(dh (fun(y:aP.Y y8)=>bQ di (cS lU 6 (vX y))) 400 lU)=(∀(y:Nat),
 y<=1099511627776->
 (∃(x:Nat×Nat×Bs),
 (x.1<=30/\
 x.2.2.length<=30/\
 iN y=kp (10+x.1) x.2.1++x.2.2/\
 x.2.2.length+x.1<=30/\x.2.1<10 ^ (x.1+1)/\x.2.1<=y)/\
 (az ↑y ↑x.2.1/\Array.toList (ByteArray.data {data:=#[]})=x.2.2/\True)/\True/\True)/\
 ∀(x:Nat×Nat×Bs),
 x.1<=30/\
 x.2.2.length<=30/\
 iN y=kp (10+x.1) x.2.1++x.2.2/\
 x.2.2.length+x.1<=30/\x.2.1<10 ^ (x.1+1)/\x.2.1<=y->
 br (bV 9 ↑x.2.1)
 (ck (bC .i64 (48+Int.tmod (↑x.2.1) 10))
 (∃(c:List UInt8),
 [SV.int Go.IntKind.u8 (Go.IntKind.wrap Go.IntKind.u8 (48+Int.tmod (↑x.2.1) 10))]=o6 c/\
 ck (Nat.ble (c.length+x.2.2.length) 1048576)
 (ck (bC .i64 (Int.tdiv (↑x.2.1) 10))
 (∃(y_1:Nat×Nat×Bs),
 (y_1.1<=30/\
 y_1.2.2.length<=30/\
 iN y=kp (10+y_1.1) y_1.2.1++y_1.2.2/\
 y_1.2.2.length+y_1.1<=30/\y_1.2.1<10 ^ (y_1.1+1)/\y_1.2.1<=y)/\
 aK.μ (vX y) y_1<aK.μ (vX y) x/\
 (az (Int.tdiv (↑x.2.1) 10) ↑y_1.2.1/\c++x.2.2=y_1.2.2/\True)/\
 True/\True))))
 (ck (bC .i64 (48+↑x.2.1))
 (∃(c:List UInt8),
 [SV.int Go.IntKind.u8 (Go.IntKind.wrap Go.IntKind.u8 (48+↑x.2.1))]=o6 c/\
 ck (Nat.ble (c.length+x.2.2.length) 1048576) (c++x.2.2=iN y/\True)))):=by kernel_rfl
end
section
variable [Inhabited aF]
abbrev CO (f:FuncId) (C:aP):Prop:=Go.Sy.cf  Tryz.prog Tryz.tab f C
theorem kg:∀g C,di g=some C->CO g C:=fun _ _ h=>by cases h
theorem cM (i:Nat) (h:i<1000000000):bC .i64 ((i:Int)+1)=true:=by rw[gJ];omega
theorem IE (b:UInt8):Int.ofNat b.toNat=nB b:=rfl
theorem OK (b:UInt8):0<=nB b/\nB b<=255:=by
 have:=b.toNat_lt;unfold nB;constructor
 . exact EB _
 . show((b.toNat:Nat):Int)<=255
   omega
theorem Hp {s:Bs} {c:Int} {i:Nat} (h:i<s.length) (h1:nB s[i]=c) (h2:∀(j:Nat) (h:j<s.length),j<i->nB s[j]=c->False):gI s c=i:=by
 have:cr s c=some i:=eP.2 ⟨h,h1,fun j hj=>h2 j (by omega) hj⟩;unfold gI;rw[this]
theorem NK {s:Bs} {c:Int} (h2:∀(j:Nat) (h:j<s.length),nB s[j]=c->False):gI s c= -1:=by
 have:cr s c=none:=iu.2 h2;unfold gI;rw[this]
theorem CX (s:Bs) (c:Int) (i:Nat) (hall:∀(j:Nat) (h:j<s.length),j<i->nB s[j]=c->False) (hi:i<=s.length) (h:¬(i:Int)<Int.ofNat s.length):gI s c= -1:=
 NK fun j hj=>hall j hj (by simp only[Aa]at h;omega)
theorem Rk:CO lR qR:=bZ (cfg:=fun y=>bQ di (cS lR 3 (vL y))) bH (fun _=>rfl) (fun _=>kg) (n:=400) (by
 rw[Q9];rintro⟨s,c⟩ hpre;simp only at hpre;refine⟨⟨0,⟨by simp,fun j h hj=>by omega⟩,⟨rfl,rfl,rfl,rfl,rfl,trivial⟩,trivial,trivial⟩,?_⟩;rintro i ⟨hi,hall⟩;simp only[aj,ar,ah,cm,Ae,Ai,Dv]at hi hall⊢;refine⟨fun hlt=>?_,fun hge=>(CX s c i hall hi hge).symm⟩;have hlt':i<s.length:=by simp only[Aa]at hlt;omega
 refine⟨s[i],by simp[hlt'],fun h1=>(Hp hlt' (by simpa [nB]using h1) hall).symm,fun h1=>⟨cM i (by omega),i+1,⟨by omega,fun j h hj he=>?_⟩,?_,by simp[az]⟩⟩
 . by_cases hji:j=i
   . subst hji;exact absurd he (by simpa [nB]using h1)
   . exact hall j h (by omega) he
 . show s.length - (i+1)<s.length - i
   omega)
theorem P9:CO lT qR:=bZ (cfg:=fun y=>bQ di (cS lT 2 (vr y))) bH (fun _=>rfl) (fun _=>kg) (n:=400) (by
 rw[Pk];rintro⟨s,c⟩ hpre;simp only at hpre;refine⟨⟨0,⟨by simp,fun j h hj=>by omega⟩,⟨rfl,rfl,rfl,trivial⟩,trivial,trivial⟩,?_⟩;rintro i ⟨hi,hall⟩;simp only[aj,ar,ah,cm,Ae,Ai,Dv]at hi hall⊢;refine⟨fun hlt=>?_,fun hge=>(CX s c i hall hi hge).symm⟩;have hlt':i<s.length:=by simp only[Aa]at hlt;omega
 refine⟨s[i],by simp[hlt'],fun h1=>(Hp hlt' (by simpa [nB]using h1) hall).symm,fun h1=>⟨cM i (by omega),i+1,⟨by omega,fun j h hj he=>?_⟩,?_,by simp[az]⟩⟩
 . by_cases hji:j=i
   . subst hji;exact absurd he (by simpa [nB]using h1)
   . exact hall j h (by omega) he
 . show s.length - (i+1)<s.length - i
   omega)
theorem Gn:∀g C,wh g=some C->CO g C:=bX Rk rZ
theorem xG (s:Bs) (c:Int):(∃i,cr s c=some i/\gI s c=(i:Int)/\i<s.length)\/(cr s c=none/\gI s c= -1):=by
 unfold gI
 cases h:cr s c with
 |none=>exact .inr ⟨rfl,rfl⟩
 |some i=>
  obtain⟨h1,_⟩:=eP.1 h;exact .inl ⟨i,rfl,rfl,h1⟩
theorem RY:CO pS oq:=bZ (cfg:=fun y=>bQ wh (dM y)) bH (fun _=>rfl) (fun _=>Gn) (n:=400) (by
 rw[R3];rintro⟨s,c⟩ hpre;refine⟨(s,c),rfl,rfl,hpre,?_⟩;simp only at hpre⊢;rcases xG s c with⟨i,h1,h2,h3⟩|⟨h1,h2⟩
 . simp only[aj,ah,h2,dy,h1,cm,mB,Ae,Ai];refine⟨fun h=>by omega,fun _=>⟨by omega,?_,?_,by omega,?_,?_⟩⟩
   . rw[AW];simp;omega
   . exact cM i (by omega)
   . rw[AW];omega
   . rw[show((i:Int)+1).toNat=i+1 by omega];simp
 . simp only[aj,ah,h2,dy,h1,cm,mB,Ae,Ai];exact⟨fun _=>by simp,fun h=>absurd (by decide) h⟩)
theorem Gp:∀g C,wi g=some C->CO g C:=bX RY Gn
theorem PB:CO lO qH:=bZ (cfg:=fun y=>bQ wi (cS lO 2 (vw y))) bH (fun _=>rfl) (fun _=>Gp) (n:=400) (by
 rw[Qr];rintro⟨s,c⟩ hpre;simp only at hpre;refine⟨⟨(s,[]),⟨by simp,by simp⟩,⟨rfl,rfl,trivial,trivial⟩,⟨⟨rfl,fun _=>rfl⟩,trivial⟩,trivial⟩,?_⟩;rintro⟨t,l⟩ ⟨h1,h2⟩;simp only at h1 h2;refine⟨(t,c),rfl,rfl,by simp only;omega,(dy t c).1,rfl,?_⟩;simp only[aj,ah];refine⟨by simp;omega,fun h=>⟨?_,trivial⟩,fun h=>⟨((dy t c).2.1,l++[(dy t c).1]),⟨?_,?_⟩,?_,by simp[az]⟩⟩
 . have h3:=uj t c
   cases hp:cr t c with
   |none=>rw[hp]at h3;simp only at h3;simp only[dy,hp];rw[h1,h3]
   |some i=>simp[dy,hp]at h
 . have h3:=uj t c
   cases hp:cr t c with
   |none=>simp[dy,hp]at h
   |some i=>rw[hp]at h3;simp only at h3;simp only[dy,hp];rw[h1,h3];simp
 . cases hp:cr t c with
   |none=>simp[dy,hp]at h
   |some i=>
    obtain⟨h4,_⟩:=eP.1 hp;simp[dy,hp];omega
 . show(dy t c).2.1.length<t.length
   cases hp:cr t c with
   |none=>simp[dy,hp]at h
   |some i=>
    obtain⟨h4,_⟩:=eP.1 hp;simp[dy,hp];omega)
theorem RZ:CO pA ot:=bZ (cfg:=fun y=>bQ di (dM y)) bH (fun _=>rfl) (fun _=>kg) (n:=400) (by
 rw[R4];intro y _;simp only[aj,fg,cX,Dv];constructor<;>intro h<;>simp[h])
theorem Gq:∀g C,wj g=some C->CO g C:=bX PB (bX RZ Gp)
theorem Rh:CO lJ qQ:=bZ (cfg:=fun y=>bQ wj (cS lJ 2 (vK y))) bH (fun _=>rfl) (fun _=>Gq) (n:=400) (by
 rw[Q8];intro s hpre;refine⟨⟨0,by simp,⟨rfl,rfl,trivial⟩,trivial,trivial⟩,?_⟩;intro i hi;have hle:=uE s;simp only[aj,ar,ah,cm,Ae,Ai,Dv];refine⟨fun hlt=>?_,fun hge=>?_⟩
 . have hlt':i<s.length:=by simp only[Aa]at hlt;omega
   refine⟨s[i],by simp[hlt'],s[i],rfl,trivial,fun h=>⟨cM i (by omega),i+1,?_,?_,by simp[az]⟩,fun h=>?_⟩
   . apply Bv;intro hn;have:cL s=i:=by omega
     have h2:=ya (s:=s) (by omega);simp only[this]at h2;rw[h]at h2
     cases h2
   . show s.length - (i+1)<s.length - i
     omega
   . apply Bv;intro hn;have hlt2:i<cL s:=by simp only[az]at hn;omega
     obtain⟨_,h2⟩:=FK hlt2;rw[h2]at h
     cases h
 . simp only[Aa]at hge;simp only[az];omega)
theorem F4 (n:Int) (h: -9223372036854775808<=n/\n<=9223372036854775807):Go.IntKind.wrap Go.IntKind.i64 n=n:=by rw[IntKind.wrap_i64];omega
theorem HD {b:UInt8} (h:cX b=true):Go.IntKind.wrap Go.IntKind.i64 (Go.IntKind.wrap Go.IntKind.u8 (Int.ofNat (UInt8.toNat b) - 48))=nB b - 48/\Go.IntKind.wrap Go.IntKind.i64 (Int.ofNat (UInt8.toNat b))=nB b/\0<=nB b - 48/\nB b - 48<=9:=by
 rw[nQ]at h;rw[IE];have h1:Go.IntKind.wrap Go.IntKind.u8 (nB b - 48)=nB b - 48:=by simp only[IntKind.wrap,IntKind.signed,IntKind.bits,Bc,Ak,Aw];omega
 rw[h1,F4 _ (by omega),F4 _ (by omega)];exact⟨rfl,rfl,by omega,by omega⟩
theorem FO (s:Bs) (x:Nat) (h:x<s.length):(s.take (x+1)).foldl bK 0=bK ((s.take x).foldl bK 0) s[x]:=by
 rw[Az h,EG];rfl
theorem FP (s:Bs) (h:∀b∈s,cX b=true) (x:Nat):0<=(s.take x).foldl bK 0/\(s.take x).foldl bK 0<=1099511627776:=
 Cv _ (fun b hb=>h b (Di hb)) 0 (by omega) (by omega)
theorem yE {y:Bs} (hne:aq y≠[]) (hd:∀b∈aq y,cX b=true):aX y=((if cj y then -1 else 1)*(aq y).foldl bK 0,true):=by
 have h1:¬cL (aq y)<(aq y).length:=by
  intro h;have h2:=ya h;rw[hd _ (AF h)]at h2
  cases h2
 unfold aX;rw[if_neg (by rintro(h|h);exact hne h;exact h1 h)]
theorem qJ {y:Bs} (h:aq y=[]\/cL (aq y)<(aq y).length):aX y=(0,false):=by
 unfold aX;rw[if_pos h]
theorem GR (y t:Bs) (K:Int) (ht:t=aq y) (hK:K=if cj y=true then -1 else 1) (hne:aq y≠[]) (hd:∀b∈aq y,cX b=true) (hl:(aq y).length<=1000000):((∃(x:Nat),
      (x<=List.length (aq y)/\ ∀(b:UInt8),b∈aq y->cX b=Bool.true)/\
      (t=aq y/\
      az K (if cj y=Bool.true then -1 else 1)/\
      az 0 (List.foldl bK 0 (List.take x (aq y)))/\
      az (Int.ofNat (List.length t)) (Int.ofNat (List.length (aq y)))/\az 0 ↑x/\True)/\
      True/\True)/\
      ∀(x:Nat),
      (x<=List.length (aq y)/\ ∀(b:UInt8),b∈aq y->cX b=Bool.true)->
      br (bV (↑x) (Int.ofNat (List.length (aq y))))
      (ck (bC Go.IntKind.i64 (List.foldl bK 0 (List.take x (aq y))*10))
      (so (aq y)[Int.toNat ↑x]? fun(val:UInt8)=>
      ck
      (bC Go.IntKind.i64
      (List.foldl bK 0 (List.take x (aq y))*10+
      Go.IntKind.wrap Go.IntKind.i64 (Go.IntKind.wrap Go.IntKind.u8 (Int.ofNat (UInt8.toNat val) - 48))))
      (ck (bC Go.IntKind.i64 (↑x+1))
      (∃(y_2:Nat),
      (y_2<=List.length (aq y)/\ ∀(b:UInt8),b∈aq y->cX b=Bool.true)/\
      aK.μ (ib y) y_2<aK.μ (ib y) x/\
      (aq y=aq y/\
      az (if cj y=Bool.true then -1 else 1) (if cj y=Bool.true then -1 else 1)/\
      az
      (if
      1099511627776<
      List.foldl bK 0 (List.take x (aq y))*10+
      Go.IntKind.wrap Go.IntKind.i64 (Go.IntKind.wrap Go.IntKind.u8 (Int.ofNat (UInt8.toNat val) - 48))then
      1099511627776
      else
      List.foldl bK 0 (List.take x (aq y))*10+
      Go.IntKind.wrap Go.IntKind.i64 (Go.IntKind.wrap Go.IntKind.u8 (Int.ofNat (UInt8.toNat val) - 48)))
      (List.foldl bK 0 (List.take y_2 (aq y)))/\
      az (Int.ofNat (List.length (aq y))) (Int.ofNat (List.length (aq y)))/\
      az (↑x+1) ↑y_2/\True)/\
      True/\True))))
      (ck
      (bC Go.IntKind.i64 ((if cj y=Bool.true then -1 else 1)*List.foldl bK 0 (List.take x (aq y))))
      (az ((if cj y=Bool.true then -1 else 1)*List.foldl bK 0 (List.take x (aq y)))
      (Prod.fst (aX y))/\
      Bool.true=Prod.snd (aX y)/\True))):=by
 refine⟨⟨0,⟨by simp,hd⟩,⟨ht,hK,by simp[az],by rw[ht],by simp[az],trivial⟩,trivial,trivial⟩,?_⟩;rintro x ⟨hx,_⟩;obtain⟨r1,r2⟩:=FP _ hd x;simp only[aj,ar,ah,cm,Ae,Ai,Dv];refine⟨fun hlt=>?_,fun hge=>?_⟩
 . have hlt':x<(aq y).length:=by simp only[Aa]at hlt;omega
   obtain⟨d1,_,d3,d4⟩:=HD (hd _ (AF hlt'));refine⟨by rw[gJ];omega,(aq y)[x],by simp[hlt'],?_,cM x (by omega),x+1,⟨by omega,hd⟩,?_,?_⟩
   . rw[d1,gJ];omega
   . show(aq y).length - (x+1)<(aq y).length - x
     omega
   . refine⟨trivial,trivial,?_,trivial,by simp[az]⟩;rw[FO _ _ hlt',d1];simp only[bK,az];omega
 . have he:x=(aq y).length:=by simp only[Aa]at hge;omega
   subst he;rw[Bg,yE hne hd]at*;refine⟨?_,by simp[az]⟩;rw[gJ];split<;>omega
theorem F9 (y:Bs) (K:Int) (hK:K=Int.ofNat (bF y)) (hne:aq y≠[]) (hd:∀b∈aq y,cX b=true) (hl:y.length<=1000000):((∃(x:Nat),
        (bF y<=x/\x<=List.length y/\ ∀(b:UInt8),b∈aq y->cX b=Bool.true)/\
        (y=y/\
        az K (Int.ofNat (bF y))/\
        az 0 (List.foldl bK 0 (List.take (x - bF y) (aq y)))/\az K ↑x/\True)/\
        True/\True)/\
        ∀(x:Nat),
        (bF y<=x/\x<=List.length y/\ ∀(b:UInt8),b∈aq y->cX b=Bool.true)->
        br (bV (↑x) (Int.ofNat (List.length y)))
        (ck (bC Go.IntKind.i64 (List.foldl bK 0 (List.take (x - bF y) (aq y))*10))
        (so y[Int.toNat ↑x]? fun(val:UInt8)=>
        ck
        (bC Go.IntKind.i64
        (List.foldl bK 0 (List.take (x - bF y) (aq y))*10+
        Go.IntKind.wrap Go.IntKind.i64 (Int.ofNat (UInt8.toNat val))))
        (ck
        (bC Go.IntKind.i64
        (List.foldl bK 0 (List.take (x - bF y) (aq y))*10+
        Go.IntKind.wrap Go.IntKind.i64 (Int.ofNat (UInt8.toNat val)) -
        48))
        (br
        (bV 1099511627776
        (List.foldl bK 0 (List.take (x - bF y) (aq y))*10+
        Go.IntKind.wrap Go.IntKind.i64 (Int.ofNat (UInt8.toNat val)) -
        48))
        (ck (bC Go.IntKind.i64 (↑x+1))
        (∃(y_2:Nat),
        (bF y<=y_2/\y_2<=List.length y/\ ∀(b:UInt8),b∈aq y->cX b=Bool.true)/\
        aK.μ (iz y) y_2<aK.μ (iz y) x/\
        (y=y/\
        az (Int.ofNat (bF y)) (Int.ofNat (bF y))/\
        az 1099511627776 (List.foldl bK 0 (List.take (y_2 - bF y) (aq y)))/\
        az (↑x+1) ↑y_2/\True)/\
        True/\True))
        (ck (bC Go.IntKind.i64 (↑x+1))
        (∃(y_2:Nat),
        (bF y<=y_2/\y_2<=List.length y/\ ∀(b:UInt8),b∈aq y->cX b=Bool.true)/\
        aK.μ (iz y) y_2<aK.μ (iz y) x/\
        (y=y/\
        az (Int.ofNat (bF y)) (Int.ofNat (bF y))/\
        az
        (List.foldl bK 0 (List.take (x - bF y) (aq y))*10+
        Go.IntKind.wrap Go.IntKind.i64 (Int.ofNat (UInt8.toNat val)) -
        48)
        (List.foldl bK 0 (List.take (y_2 - bF y) (aq y)))/\
        az (↑x+1) ↑y_2/\True)/\
        True/\True))))))
        (br (Int.ofNat (bF y)==1)
        (ck (bC Go.IntKind.i64 (0 - List.foldl bK 0 (List.take (x - bF y) (aq y))))
        (az (0 - List.foldl bK 0 (List.take (x - bF y) (aq y))) (Prod.fst (aX y))/\
        Bool.true=Prod.snd (aX y)/\True))
        (az (List.foldl bK 0 (List.take (x - bF y) (aq y))) (Prod.fst (aX y))/\
        Bool.true=Prod.snd (aX y)/\True))):=by
 have hlen:(aq y).length=y.length - bF y:=by unfold aq bF;split<;>simp
 have hpos:0<(aq y).length:=AZ.2 hne;have hget:∀x (h:x<y.length),bF y<=x->y[x]=(aq y)[x - bF y]'(by omega):=by
   intro x h h2;have e:(aq y)[x - bF y]? =y[x]? :=by
     unfold aq bF;unfold bF at h2;split
     . rename_i hn;rw[if_pos hn]at h2;rw[BN];congr 1
       omega
     . simp
   rw[Ag h,Ag (by omega)]at e;exact(B8 e).symm
 refine⟨⟨bF y,⟨Ah _,by omega,hd⟩,⟨rfl,hK,by simp[az],by simp[az,hK],trivial⟩,trivial,trivial⟩,?_⟩;rintro x ⟨hx0,hx,_⟩;obtain⟨r1,r2⟩:=FP _ hd (x - bF y);simp only[aj,ar,ah,cm,Ae,Ai,Dv];refine⟨fun hlt=>?_,fun hge=>?_⟩
 . have hlt':x<y.length:=by simp only[Aa]at hlt;omega
   have hg:=hget x hlt' hx0;have hdx:cX y[x]=true:=by rw[hg];exact hd _ (AF _)
   obtain⟨_,d1,d3,d4⟩:=HD hdx;have hs:List.foldl bK 0 (List.take (x+1 - bF y) (aq y))=bK (List.foldl bK 0 (List.take (x - bF y) (aq y))) y[x]:=by
     rw[show x+1 - bF y=(x - bF y)+1 by omega,FO _ _ (by omega),hg]
   have hm:aK.μ (iz y) (x+1)<aK.μ (iz y) x:=by
     show y.length - (x+1)<y.length - x
     omega
   refine⟨by rw[gJ];omega,y[x],by simp[hlt'],?_,?_,fun h1=>⟨cM x (by omega),x+1,⟨by omega,by omega,hd⟩,hm,?_⟩,fun h1=>⟨cM x (by omega),x+1,⟨by omega,by omega,hd⟩,hm,?_⟩⟩
   . rw[d1,gJ];omega
   . rw[d1,gJ];omega
   . refine⟨trivial,trivial,?_,by simp[az]⟩;rw[d1]at h1;rw[hs];simp only[bK,az];omega
   . refine⟨trivial,trivial,?_,by simp[az]⟩;rw[d1]at h1;rw[hs,d1];simp only[bK,az];omega
 . have he:x=y.length:=by simp only[Aa]at hge;omega
   subst he;rw[show y.length - bF y=(aq y).length by omega,Bg]at*;rw[yE hne hd];unfold bF
   cases hn:cj y
   . simp[az]
   . simp only[if_true];refine⟨fun _=>⟨by rw[gJ];omega,by simp[az]⟩,fun h=>by simp at h⟩
theorem P6:CO lM qQ:=bZ (cfg:=fun y=>bQ di (cS lM 3 (kJ y))) bH (fun _=>rfl) (fun _=>kg) (n:=400) (by
 rw[Pj];intro s hpre;refine⟨⟨0,by simp,⟨rfl,by simp[az],rfl,trivial⟩,trivial,trivial⟩,?_⟩;intro i hi;have hle:=uE s;simp only[aj,ar,ah,cm,fg,Ae,Ai,Dv];refine⟨fun hlt=>?_,fun hge=>?_⟩
 . have hlt':i<s.length:=by simp only[Aa]at hlt;omega
   have hm:aK.μ (kJ s) (i+1)<aK.μ (kJ s) i:=by
     show s.length - (i+1)<s.length - i
     omega
   have no:cX s[i]=false->cL s<=i:=by
     intro h;apply Bv;intro hn;obtain⟨_,h2⟩:=FK (show i<cL s by omega);rw[h2]at h
     cases h
   have step:∀(n:Int),n=Int.ofNat (min (i+1) (cL s))->n=Int.ofNat (min (i+1) (cL s)):=fun _ h=>h
   refine⟨fun hq=>⟨s[i],by simp[hlt'],fun h1=>⟨s[i],by simp[hlt'],fun h2=>⟨by rw[gJ];simp only[Aa];omega,cM i (by omega),i+1,by omega,hm,trivial,?_,by simp[az]⟩,fun h2=>⟨cM i (by omega),i+1,by omega,hm,trivial,?_,by simp[az]⟩⟩,fun h1=>⟨cM i (by omega),i+1,by omega,hm,trivial,?_,by simp[az]⟩⟩,fun hq=>⟨cM i (by omega),i+1,by omega,hm,trivial,?_,by simp[az]⟩⟩
   . have hd:cX s[i]=true:=by rw[nQ];exact⟨h1,h2⟩
     have:¬cL s<=i:=by
      intro hn;simp only[Aa,BJ]at hq;have he:cL s=i:=by omega
      have h3:=ya (s:=s) (by omega);simp only[he]at h3;rw[hd]at h3
      cases h3
     simp only[az,Aa];omega
   . have hd:cX s[i]=false:=by rw[AN];intro h;rw[nQ]at h;exact h2 h.2
     have:=no hd;simp only[az,Aa];omega
   . have hd:cX s[i]=false:=by rw[AN];intro h;rw[nQ]at h;exact h1 h.1
     have:=no hd;simp only[az,Aa];omega
   . simp only[Aa,Db]at hq;simp only[az,Aa];omega
 . simp only[Aa]at hge;simp only[az,Aa];omega)
theorem K5 {s:Bs} {c:Int} {a i:Nat} (hai:a<=i) (h:i<s.length) (h1:nB s[i]=c) (h2:∀(j:Nat) (h:j<s.length),a<=j->j<i->nB s[j]=c->False):aO (s.drop a) c=(s.drop a).take (i - a)::aO (s.drop (i+1)) c:=by
 have hp:cr (s.drop a) c=some (i - a):=eP.2 ⟨by simp;omega,by rw[B0];simp only[show a+(i - a)=i by omega];exact h1,fun j hj=>by
  rw[B0];exact fun e=>h2 (a+j) (by omega) (by omega) (by omega) e⟩
 rw[uj,hp];simp only[Et];rw[show a+(i - a+1)=i+1 by omega]
theorem K6 {s:Bs} {c:Int} {a:Nat} (h2:∀(j:Nat) (h:j<s.length),a<=j->nB s[j]=c->False):aO (s.drop a) c=[s.drop a]:=by
 have hp:cr (s.drop a) c=none:=iu.2 (fun j hj=>by
  rw[B0];exact fun e=>h2 (a+j) (by simp at hj;omega) (by omega) e)
 rw[uj,hp]
theorem Oa:CO lP qH:=bZ (cfg:=fun y=>bQ di (cS lP 4 (qB y))) bH (fun _=>rfl) (fun _=>kg) (n:=400) (by
 rw[N3];rintro⟨s,c⟩ hpre;simp only at hpre;refine⟨⟨(0,0,[]),⟨by simp,by simp,by simp,by simp,fun j h _ hj=>by simp at hj⟩,⟨rfl,rfl,trivial,rfl,rfl,trivial⟩,⟨rfl,trivial⟩,trivial⟩,?_⟩;rintro⟨a,i,l⟩ ⟨h1,h2,h3,h4,h5⟩;simp only at h1 h2 h3 h4 h5;simp only[aj,ar,ah,cm,Ae,Ai,Dv,DJ];refine⟨fun hlt=>?_,fun hge=>?_⟩
 . have hlt':i<s.length:=by simp only[Aa]at hlt;omega
   refine⟨s[i],by simp[hlt'],fun hc=>?_,fun hc=>⟨cM i (by omega),(a,i+1,l),⟨by simp only;omega,by simp only;omega,h3,h4,fun j hj ha hji he=>?_⟩,?_,by simp[az]⟩⟩
   . have hc':nB s[i]=c:=by simpa [nB]using hc
     have hs:=K5 h1 hlt' hc' h5;refine⟨by simp;omega,_,rfl,by simp;omega,cM i (by omega),cM i (by omega),(i+1,i+1,l++[(s.drop a).take (i - a)]),⟨by simp,by simp only;omega,?_,by simp;omega,fun j hj ha hji=>by simp only at ha hji;omega⟩,?_,by simp[az]⟩
     . rw[h3,hs];simp
     . show s.length - (i+1)<s.length - i
       omega
   . by_cases hji2:j=i
     . subst hji2;exact absurd he (by simpa [nB]using hc)
     . exact h5 j hj ha (by simp only at hji;omega) he
   . show s.length - (i+1)<s.length - i
     omega
 . have he:i=s.length:=by simp only[Aa]at hge;omega
   subst he;refine⟨by simpa using h1,_,rfl,by simp;omega,?_⟩;rw[h3,K6 (fun j hj ha=>h5 j hj ha hj)])
theorem qk {y:Bs} (h:cj y=true):aq y=y.drop 1:=by unfold aq;rw[if_pos h]
theorem rU {y:Bs} (h:cj y=false):aq y=y:=by unfold aq;rw[if_neg (by simp[h])]
theorem mg {b:UInt8} {y:Bs}:cj (b::y)=(Int.ofNat b.toNat==45):=rfl
theorem uh {y:Bs} (h:¬(↑(cL y):Int)<Int.ofNat y.length):∀b∈y,cX b=true:=ue (by simp only[Aa]at h;omega)
theorem xX:∀g C,qT g=some C->CO g C:=bX Rh (bX P6 Gq)
theorem R0:CO lK j8:=bZ (cfg:=fun y=>bQ qT (cS lK 8 (ib y))) bH (fun _=>rfl) (fun _=>xX) (n:=400) (by
 rw[R5];intro y hpre
 cases y with
 |nil=>
  have hn:aX []=(0,false):=rfl;refine aj.2 ⟨fun h=>by simp at h,fun _=>aj.2 ⟨fun _=>by rw[hn];exact⟨rfl,rfl,trivial⟩,fun h=>by simp at h⟩⟩
 |cons b s=>
  refine aj.2 ⟨fun _=>ar.2 ⟨b,rfl,aj.2 ⟨fun hb=>ah.2 ⟨by simp,aj.2 ⟨fun h=>?_,fun h=>⟨s,rfl,by simp at hpre;omega,aj.2 ⟨fun hd=>?_,fun hd=>?_⟩⟩⟩⟩,fun hb=>aj.2 ⟨fun h=>by simp at h,fun _=>⟨b::s,rfl,hpre,aj.2 ⟨fun hd=>?_,fun hd=>?_⟩⟩⟩⟩⟩,fun h=>by simp at h⟩
  . have hg:cj (b::s)=true:=by rw[mg];exact hb
    have he:aq (b::s)=[]:=by rw[qk hg];simpa using h
    rw[qJ (.inl he)];exact⟨rfl,rfl,trivial⟩
  . have hg:cj (b::s)=true:=by rw[mg];exact hb
    rw[cm,Ae]at hd;rw[qJ (.inr (by rw[qk hg];simp only[Aa]at hd;simp at hd⊢;omega))];exact⟨rfl,rfl,trivial⟩
  . have hg:cj (b::s)=true:=by rw[mg];exact hb
    rw[cm,Ai]at hd;have ha:=qk hg;exact GR _ _ _ ha.symm (by rw[if_pos hg]) (by rw[ha];simpa using h) (by rw[ha];exact uh hd) (by rw[ha];simp at hpre⊢;omega)
  . have hg:cj (b::s)=false:=by rw[mg];exact hb
    rw[cm,Ae]at hd;rw[qJ (.inr (by rw[rU hg];simp only[Aa]at hd;omega))];exact⟨rfl,rfl,trivial⟩
  . have hg:cj (b::s)=false:=by rw[mg];exact hb
    rw[cm,Ai]at hd;have ha:=rU hg;exact GR _ _ _ ha.symm (by rw[if_neg (by simp[hg])]) (by rw[ha];simp) (by rw[ha];exact uh hd) (by rw[ha];exact hpre))
theorem Rw:CO lN j8:=bZ (cfg:=fun y=>bQ qT (cS lN 8 (iz y))) bH (fun _=>rfl) (fun _=>xX) (n:=400) (by
 rw[QI];intro y hpre
 cases y with
 |nil=>
  have hn:aX []=(0,false):=rfl;refine aj.2 ⟨fun h=>by simp[cm]at h,fun _=>aj.2 ⟨fun _=>by rw[hn];exact⟨rfl,rfl,trivial⟩,fun h=>by simp at h⟩⟩
 |cons b s=>
  have hbig:s.length+1<=1000000:=by simpa using hpre
  have hln:Int.ofNat (b::s).length=(s.length:Int)+1:=by simp
  rw[hln];refine aj.2 ⟨fun _=>ar.2 ⟨b,rfl,aj.2 ⟨fun hb=>aj.2 ⟨fun h=>?_,fun h=>ah.2 ⟨by simp,s,rfl,by omega,ah.2 ⟨by rw[gJ];omega,aj.2 ⟨fun hd=>?_,fun hd=>?_⟩⟩⟩⟩,fun hb=>aj.2 ⟨fun h=>by simp at h;omega,fun _=>⟨b::s,rfl,hpre,ah.2 ⟨by rw[gJ];omega,aj.2 ⟨fun hd=>?_,fun hd=>?_⟩⟩⟩⟩⟩⟩,fun h=>by rw[cm]at h;simp at h<;>omega⟩
  . have hg:cj (b::s)=true:=by rw[mg];exact hb
    have hs:s=[]:=by simp at h;exact AG (by omega)
    rw[qJ (.inl (by rw[qk hg];simpa using hs))];exact⟨rfl,rfl,trivial⟩
  . have hg:cj (b::s)=true:=by rw[mg];exact hb
    rw[cm,Ae]at hd;rw[qJ (.inr (by rw[qk hg];simp at hd⊢;omega))];exact⟨rfl,rfl,trivial⟩
  . have hg:cj (b::s)=true:=by rw[mg];exact hb
    rw[cm,Ai]at hd;have ha:=qk hg;have:=F9 (b::s) 1 (by unfold bF;rw[if_pos hg];rfl) (by rw[ha];intro e;simp at e;subst e;simp at h) (by rw[ha];exact uh (by simp at hd⊢;omega)) hpre;rw[hln]at this;exact this
  . have hg:cj (b::s)=false:=by rw[mg];exact hb
    rw[cm,Ae]at hd;rw[qJ (.inr (by rw[rU hg];simp at hd⊢;omega))];exact⟨rfl,rfl,trivial⟩
  . have hg:cj (b::s)=false:=by rw[mg];exact hb
    rw[cm,Ai]at hd;have ha:=rU hg;have:=F9 (b::s) 0 (by unfold bF;rw[if_neg (by simp[hg])];rfl) (by rw[ha];simp) (by rw[ha];exact uh (by simp at hd⊢;omega)) hpre;rw[hln]at this;exact this)
theorem G7 (k n:Nat) (h:n<=9):kp (k+1) n=[UInt8.ofNat (48+n)]:=by simp[kp,h]
theorem RA:CO lU y8:=bZ (cfg:=fun y=>bQ di (cS lU 6 (vX y))) bH (fun _=>rfl) (fun _=>kg) (n:=400) (by
 rw[QK];intro n hpre;have hpre:n<=1099511627776:=hpre;refine⟨⟨(30,n,[]),⟨by simp,by simp,by simp[iN],by simp,?_,Ah _⟩,⟨rfl,rfl,trivial⟩,trivial,trivial⟩,?_⟩
 . exact Nat.lt_of_le_of_lt hpre (by show 1099511627776<10 ^ 31;decide)
 rintro⟨k,m,s⟩ ⟨h1,h2,h3,h4,h5,h6⟩;simp only at h1 h2 h3 h4 h5 h6;have wr:∀d:Nat,d<=9->[SV.int Go.IntKind.u8 (Go.IntKind.wrap Go.IntKind.u8 (48+(d:Int)))]=o6 [UInt8.ofNat (48+d)]:=by
   intro d hd;have:Go.IntKind.wrap Go.IntKind.u8 (48+(d:Int))=Int.ofNat (UInt8.ofNat (48+d)).toNat:=by
    simp only[IntKind.wrap,IntKind.signed,IntKind.bits,Bc,Ak,Aw,UInt8.toNat_ofNat',Aa];omega
   rw[this];rfl
 have hk:9<m->1<=k:=by
   intro hm;apply Bv;intro hn;have:k=0:=by omega
   subst this;simp at h5;omega
 have tm:Int.tmod (m:Int) 10=((m % 10:Nat):Int):=rfl;have td:Int.tdiv (m:Int) 10=((m / 10:Nat):Int):=rfl;simp only[tm,td];refine aj.2 ⟨fun h=>ah.2 ⟨?_,[UInt8.ofNat (48+m % 10)],wr _ (by omega),ah.2 ⟨by simp;omega,ah.2 ⟨?_,(k - 1,m / 10,UInt8.ofNat (48+m % 10)::s),⟨by simp only;omega,?_,?_,?_,?_,?_⟩,?_,⟨rfl,rfl,trivial⟩,trivial,trivial⟩⟩⟩,fun h=>ah.2 ⟨?_,[UInt8.ofNat (48+m)],wr _ ?_,ah.2 ⟨by simp;omega,?_,trivial⟩⟩⟩
 . rw[gJ];omega
 . rw[gJ];omega
 all_goals (simp only[cm,Ae,Ai]at h)
 . have:=hk (by omega);simp;omega
 . have:=hk (by omega);rw[h3,show 10+k=(10+(k - 1))+1 by omega];have hm:¬m<=9:=by omega
   simp only[kp,if_neg hm];simp
 . have:=hk (by omega);simp;omega
 . have:=hk (by omega);simp only;rw[show k - 1+1=k by omega];rw[Nat.pow_succ]at h5;omega
 . simp only;omega
 . show m / 10<m
   omega
 . rw[gJ];omega
 . omega
 . rw[h3,show 10+k=(9+k)+1 by omega,G7 _ _ (by omega)])
theorem NS:∀g C,I3 g=some C->CO g C:=bX R0 (bX Rw (bX P9 (bX Oa (bX RA xX))))
end
section
variable [Inhabited aF]
def yR:aP:={Y:=UInt8×Bool,pre:=fun _=>True,args:=fun y=>[.int .u8 (nB y.1), .bool y.2],res:=fun y=> .bool (fO (nB y.1) y.2)}
def y7:aP:={Y:=UInt8,pre:=fun _=>True,args:=fun y=>[.int .u8 (nB y)],res:=fun y=> .bool (gB y)}
def fE (p:Bs->Bool):aP:={Y:=Bs,pre:=fun y=>y.length<=100000,args:=fun y=>[.str y],res:=fun y=> .bool (p y)}
def nR (y:Bs):aK:={α:=Nat,ok:=fun i=>i<=y.length/\ ∀j (h:j<y.length),j<i->fO (nB y[j]) (j==0||j==y.length - 1)=true,μ:=fun i=>y.length - i,aU:=[],aR:=fun i=>[(0, .str y),(12,i64 (Int.ofNat y.length)),(13,i64 i)],bD:=fun _=>[]}
def nW (y:Bs):aK:={α:=Nat,ok:=fun i=>i<=(aO y 46).length/\ ∀j (h:j<(aO y 46).length),j<i->gf (aO y 46)[j]=true,μ:=fun i=>(aO y 46).length - i,aU:=[],aR:=fun i=>[(13,strs (aO y 46)),(14,i64 (Int.ofNat (aO y 46).length)),(15,i64 i)],bD:=fun _=>[]}
def gy (y:Bs):aK:=let l:=(y.drop 1).take (y.length - 2);{α:=Nat,ok:=fun i=>i<=l.length/\ ∀j (h:j<l.length),j<i->cJ l[j]=true,μ:=fun i=>l.length - i,aU:=[],aR:=fun i=>[(31, .aJ UInt8 l cG),(32,i64 (Int.ofNat l.length)),(33,i64 i)],bD:=fun _=>[]}
def gu (y:Bs):aK:={α:=Nat,ok:=fun i=>1<=i/\i+1<=y.length/\ ∀j (h:j<y.length),1<=j->j<i->cJ y[j]=true,μ:=fun i=>y.length - i,aU:=[],aR:=fun i=>[(0, .str y),(3,i64 i)],bD:=fun _=>[]}
def vW (y:Bs):aK:={α:=Nat,ok:=fun i=>i<=(aO y 46).length/\ ∀j (h:j<(aO y 46).length),j<i->eI (aO y 46)[j]=true,μ:=fun i=>(aO y 46).length - i,aU:=[],aR:=fun i=>[(13,strs (aO y 46)),(14,i64 (Int.ofNat (aO y 46).length)),(15,i64 i)],bD:=fun _=>[]}
def ve (y:Bs):aK:={α:=Nat,ok:=fun i=>i<=y.length/\ ∀j (h:j<y.length),j<i->gB y[j]=true,μ:=fun i=>y.length - i,aU:=[],aR:=fun i=>[(0, .str y),(3,i64 i)],bD:=fun _=>[]}
def vt (y:Bs):aK:={α:=Nat,ok:=fun i=>i<=4/\ ∀j (h:j<(aO y 46).length),j<i->gf (aO y 46)[j]=true,μ:=fun i=>4 - i,aU:=[],aR:=fun i=>[(3,strs (aO y 46)),(4,i64 i)],bD:=fun _=>[]}
def vu (y:Bs):aK:={α:=Nat,ok:=fun i=>i<=(aO y 46).length/\ ∀j (h:j<(aO y 46).length),j<i->eI (aO y 46)[j]=true,μ:=fun i=>(aO y 46).length - i,aU:=[],aR:=fun i=>[(3,strs (aO y 46)),(4,i64 i)],bD:=fun _=>[]}
noncomputable def kO (f:FuncId):Option aP:=bif Nat.beq f pT then some yR else bif Nat.beq f pN then some y7 else I3 f
noncomputable def nV (f:FuncId):Option aP:=bif Nat.beq f lS then some (fE eI)else bif Nat.beq f lQ then some (fE eI)else bif Nat.beq f lZ then some (fE fi)else bif Nat.beq f lW then some (fE fi)else bif Nat.beq f lL then some (fE eT)else bif Nat.beq f lH then some (fE eT)else kO f
noncomputable def wo (f:FuncId):Option aP:=bif Nat.beq f py then some (fE gA)else bif Nat.beq f pw then some (fE gA)else bif Nat.beq f lV then some (fE fp)else nV f
noncomputable def I7 (f:FuncId):Option aP:=bif Nat.beq f l3 then some (fE fp)else wo f
noncomputable def I8 (f:FuncId):Option aP:=I7 f
noncomputable def I9 (f:FuncId):Option aP:=I8 f
noncomputable def Ja (f:FuncId):Option aP:=I9 f
end
section
variable [Inhabited aF]
theorem Qq:(dh (fun(y:aP.Y yR)=>bQ di (dM y)) 400 pT)=(∀(y:UInt8×Bool),
 True->
 br (nB y.1==45)
 (br y.2 (false=fO (nB y.1) y.2/\True)
 (true=fO (nB y.1) y.2/\True))
 (br (bG 97 (nB y.1))
 (br (bG (nB y.1) 122) (true=fO (nB y.1) y.2/\True)
 (br (bG 48 (nB y.1))
 (br (bG (nB y.1) 57) (true=fO (nB y.1) y.2/\True)
 (br (nB y.1==95) (true=fO (nB y.1) y.2/\True)
 (false=fO (nB y.1) y.2/\True)))
 (br (nB y.1==95) (true=fO (nB y.1) y.2/\True)
 (false=fO (nB y.1) y.2/\True))))
 (br (bG 48 (nB y.1))
 (br (bG (nB y.1) 57) (true=fO (nB y.1) y.2/\True)
 (br (nB y.1==95) (true=fO (nB y.1) y.2/\True)
 (false=fO (nB y.1) y.2/\True)))
 (br (nB y.1==95) (true=fO (nB y.1) y.2/\True)
 (false=fO (nB y.1) y.2/\True))))):=by kernel_rfl
theorem QJ:(dh (fun(y:aP.Y y7)=>bQ di (dM y)) 400 pN)=(∀(y:UInt8),
 True->
 br (bG 97 (nB y))
 (br (bG (nB y) 122) (true=gB y/\True)
 (br (bG 48 (nB y))
 (br (bG (nB y) 57) (true=gB y/\True)
 (br (nB y==45) (true=gB y/\True) ((nB y==95)=gB y/\True)))
 (br (nB y==45) (true=gB y/\True) ((nB y==95)=gB y/\True))))
 (br (bG 48 (nB y))
 (br (bG (nB y) 57) (true=gB y/\True)
 (br (nB y==45) (true=gB y/\True) ((nB y==95)=gB y/\True)))
 (br (nB y==45) (true=gB y/\True) ((nB y==95)=gB y/\True)))):=by kernel_rfl
theorem Pm:(dh (fun(y:aP.Y (fE eI))=>bQ kO (cS lS 4 (nR y))) 400 lS)=(∀(y:List UInt8),
 y.length<=100000->
 br (y==Array.toList (ByteArray.data {data:=#[]})) (false=eI y/\True)
 (br (bV 63 (Int.ofNat y.length)) (false=eI y/\True)
 ((∃(x:Nat),
 (x<=y.length/\ ∀(j:Nat) (h:j<y.length),j<x->fO (nB y[j]) (j==0||j==y.length - 1)=true)/\
 (y=y/\az (Int.ofNat y.length) (Int.ofNat y.length)/\az 0 ↑x/\True)/\True/\True)/\
 ∀(x:Nat),
 (x<=y.length/\ ∀(j:Nat) (h:j<y.length),j<x->fO (nB y[j]) (j==0||j==y.length - 1)=true)->
 br (bV (↑x) (Int.ofNat y.length))
 (so y[Int.toNat ↑x]? fun(val:UInt8)=>
 br ((↑x:Int)==0)
 (∃(y_1:UInt8×Bool),
 az (Int.ofNat (UInt8.toNat val)) (nB y_1.1)/\
 true=y_1.2/\
 True/\
 br (!fO (nB y_1.1) y_1.2) (false=eI y/\True)
 (ck (bC .i64 (↑x+1))
 (∃(y_2:Nat),
 (y_2<=y.length/\
 ∀(j:Nat) (h:j<y.length),j<y_2->fO (nB y[j]) (j==0||j==y.length - 1)=true)/\
 aK.μ (nR y) y_2<aK.μ (nR y) x/\
 (y=y/\az (Int.ofNat y.length) (Int.ofNat y.length)/\az (↑x+1) ↑y_2/\True)/\True/\True)))
 (ck (bC .i64 (Int.ofNat y.length - 1))
 (∃(y_1:UInt8×Bool),
 az (Int.ofNat (UInt8.toNat val)) (nB y_1.1)/\
 ((↑x:Int)==Int.ofNat y.length - 1)=y_1.2/\
 True/\
 br (!fO (nB y_1.1) y_1.2) (false=eI y/\True)
 (ck (bC .i64 (↑x+1))
 (∃(y_2:Nat),
 (y_2<=y.length/\
 ∀(j:Nat) (h:j<y.length),j<y_2->fO (nB y[j]) (j==0||j==y.length - 1)=true)/\
 aK.μ (nR y) y_2<aK.μ (nR y) x/\
 (y=y/\az (Int.ofNat y.length) (Int.ofNat y.length)/\az (↑x+1) ↑y_2/\True)/\True/\True)))))
 (true=eI y/\True)))):=by kernel_rfl
theorem N2:(dh (fun(y:aP.Y (fE eI))=>bQ kO (cS lQ 4 (ve y))) 400 lQ)=(∀(y:List UInt8),
 y.length<=100000->
 br (bV (Int.ofNat y.length) 1) (false=eI y/\True)
 (br (bV 63 (Int.ofNat y.length)) (false=eI y/\True)
 (so y[Int.toNat 0]? fun(val:UInt8)=>
 br (Int.ofNat (UInt8.toNat val)==45) (false=eI y/\True)
 (ck (bC .i64 (Int.ofNat y.length - 1))
 (ck (nn (Int.ofNat y.length - 1))
 (so y[Int.toNat (Int.ofNat y.length - 1)]? fun(val:UInt8)=>
 br (Int.ofNat (UInt8.toNat val)==45) (false=eI y/\True)
 ((∃(x:Nat),
 (x<=y.length/\ ∀(j:Nat) (h:j<y.length),j<x->gB y[j]=true)/\(y=y/\az 0 ↑x/\True)/\True/\True)/\
 ∀(x:Nat),
 (x<=y.length/\ ∀(j:Nat) (h:j<y.length),j<x->gB y[j]=true)->
 br (bV (↑x) (Int.ofNat y.length))
 (so y[Int.toNat ↑x]? fun(val:UInt8)=>
 ∃(y_1:UInt8),
 az (Int.ofNat (UInt8.toNat val)) (nB y_1)/\
 True/\
 br (!gB y_1) (false=eI y/\True)
 (ck (bC .i64 (↑x+1))
 (∃(y_2:Nat),
 (y_2<=y.length/\ ∀(j:Nat) (h:j<y.length),j<y_2->gB y[j]=true)/\
 aK.μ (ve y) y_2<aK.μ (ve y) x/\(y=y/\az (↑x+1) ↑y_2/\True)/\True/\True)))
 (true=eI y/\True)))))))):=by kernel_rfl
theorem Ra:(dh (fun(y:aP.Y (fE fi))=>bQ kO (cS lZ 5 (nW y))) 400 lZ)=(∀(y:List UInt8),
 y.length<=100000->
 ∃(y_1:Bs×Int),
 y=y_1.1/\
 az 46 y_1.2/\
 y_1.1.length<=100000/\
 br (!Int.ofNat (List.length (aO y_1.1 y_1.2))==4) (false=fi y/\True)
 ((∃(x:Nat),
 (x<=List.length (aO y 46)/\
 ∀(j:Nat) (h:j<List.length (aO y 46)),j<x->gf (aO y 46)[j]=true)/\
 (SV.aJ Bs (aO y_1.1 y_1.2) eR=SV.aJ Bs (aO y 46) eR/\
 az (Int.ofNat (List.length (aO y_1.1 y_1.2))) (Int.ofNat (List.length (aO y 46)))/\
 az 0 ↑x/\True)/\
 True/\True)/\
 ∀(x:Nat),
 (x<=List.length (aO y 46)/\
 ∀(j:Nat) (h:j<List.length (aO y 46)),j<x->gf (aO y 46)[j]=true)->
 br (bV (↑x) (Int.ofNat (List.length (aO y 46))))
 (so (aO y 46)[Int.toNat ↑x]? fun(val:Bs)=>
 ∃(y_2:List UInt8),
 val=y_2/\
 y_2.length<=1000000/\
 br (val==Array.toList (ByteArray.data {data:=#[]})) (false=fi y/\True)
 (∃(y_3:List UInt8),
 val=y_3/\
 y_3.length<=1000000/\
 br (bV (↑(cL y_3)) (Int.ofNat val.length)) (false=fi y/\True)
 (br (bV 255 (Prod.fst (aX y_2))) (false=fi y/\True)
 (br (bV 1 (Int.ofNat val.length))
 (so val[Int.toNat 0]? fun(val:UInt8)=>
 br (Int.ofNat (UInt8.toNat val)==48) (false=fi y/\True)
 (ck (bC .i64 (↑x+1))
 (∃(y_4:Nat),
 (y_4<=List.length (aO y 46)/\
 ∀(j:Nat) (h:j<List.length (aO y 46)),
 j<y_4->gf (aO y 46)[j]=true)/\
 aK.μ (nW y) y_4<aK.μ (nW y) x/\
 (SV.aJ Bs (aO y 46) eR=
 SV.aJ Bs (aO y 46) eR/\
 az (Int.ofNat (List.length (aO y 46))) (Int.ofNat (List.length (aO y 46)))/\
 az (↑x+1) ↑y_4/\True)/\
 True/\True)))
 (ck (bC .i64 (↑x+1))
 (∃(y_4:Nat),
 (y_4<=List.length (aO y 46)/\
 ∀(j:Nat) (h:j<List.length (aO y 46)),j<y_4->gf (aO y 46)[j]=true)/\
 aK.μ (nW y) y_4<aK.μ (nW y) x/\
 (SV.aJ Bs (aO y 46) eR=
 SV.aJ Bs (aO y 46) eR/\
 az (Int.ofNat (List.length (aO y 46))) (Int.ofNat (List.length (aO y 46)))/\
 az (↑x+1) ↑y_4/\True)/\
 True/\True))))))
 (true=fi y/\True))):=by kernel_rfl
theorem Pl:(dh (fun(y:aP.Y (fE fi))=>bQ kO (cS lW 5 (vt y))) 400 lW)=(∀(y:List UInt8),
 y.length<=100000->
 ∃(y_1:Bs×Int),
 y=y_1.1/\
 az 46 y_1.2/\
 y_1.1.length<=100000/\
 br (!Int.ofNat (List.length (aO y_1.1 y_1.2))==4) (false=fi y/\True)
 ((∃(x:Nat),
 (x<=4/\ ∀(j:Nat) (h:j<List.length (aO y 46)),j<x->gf (aO y 46)[j]=true)/\
 (SV.aJ Bs (aO y_1.1 y_1.2) eR=SV.aJ Bs (aO y 46) eR/\
 az 0 ↑x/\True)/\
 True/\True)/\
 ∀(x:Nat),
 (x<=4/\ ∀(j:Nat) (h:j<List.length (aO y 46)),j<x->gf (aO y 46)[j]=true)->
 br (bV (↑x) 4)
 (so (aO y 46)[Int.toNat ↑x]? fun(val:Bs)=>
 br (bV (Int.ofNat val.length) 1) (false=fi y/\True)
 (so (aO y 46)[Int.toNat ↑x]? fun(val:Bs)=>
 br (bV 3 (Int.ofNat val.length)) (false=fi y/\True)
 (so (aO y 46)[Int.toNat ↑x]? fun(val:Bs)=>
 so (aO y 46)[Int.toNat ↑x]? fun(val_1:Bs)=>
 ∃(y_2:List UInt8),
 val=y_2/\
 y_2.length<=1000000/\
 br (!↑(cL y_2)==Int.ofNat val_1.length) (false=fi y/\True)
 (so (aO y 46)[Int.toNat ↑x]? fun(val:Bs)=>
 ∃(y_3:List UInt8),
 val=y_3/\
 y_3.length<=1000000/\
 br (bV 255 (Prod.fst (aX y_3))) (false=fi y/\True)
 (so (aO y 46)[Int.toNat ↑x]? fun(val:Bs)=>
 ∃(y_4:Nat),
 az (Prod.fst (aX y_3)) ↑y_4/\
 y_4<=1099511627776/\
 br (!iN y_4==val) (false=fi y/\True)
 (ck (bC .i64 (↑x+1))
 (∃(y_5:Nat),
 (y_5<=4/\
 ∀(j:Nat) (h:j<List.length (aO y 46)),
 j<y_5->gf (aO y 46)[j]=true)/\
 aK.μ (vt y) y_5<aK.μ (vt y) x/\
 (SV.aJ Bs (aO y 46) eR=
 SV.aJ Bs (aO y 46) eR/\
 az (↑x+1) ↑y_5/\True)/\
 True/\True)))))))
 (true=fi y/\True))):=by kernel_rfl
theorem Ph:(dh (fun(y:aP.Y (fE eT))=>bQ kO (cS lL 4 (gy y))) 400 lL)=(∀(y:List UInt8),
 y.length<=100000->
 br (bV (Int.ofNat y.length) 4) (false=eT y/\True)
 (br (bV 47 (Int.ofNat y.length)) (false=eT y/\True)
 (so y[Int.toNat 0]? fun(val:UInt8)=>
 br (!Int.ofNat (UInt8.toNat val)==91) (false=eT y/\True)
 (ck (bC .i64 (Int.ofNat y.length - 1))
 (ck (nn (Int.ofNat y.length - 1))
 (so y[Int.toNat (Int.ofNat y.length - 1)]? fun(val:UInt8)=>
 br (!Int.ofNat (UInt8.toNat val)==93) (false=eT y/\True)
 (ck (bC .i64 (Int.ofNat y.length - 1))
 (ck (nn (Int.ofNat y.length - 1))
 (ck (Nat.ble (Int.toNat 1) (Int.toNat (Int.ofNat y.length - 1))&&Nat.ble (Int.toNat (Int.ofNat y.length - 1)) y.length)
 ((∃(x:Nat),
 (x<=List.length (List.take (y.length - 2) (List.drop 1 y))/\
 ∀(j:Nat) (h:j<List.length (List.take (y.length - 2) (List.drop 1 y))),
 j<x->cJ (List.take (y.length - 2) (List.drop 1 y))[j]=true)/\
 (SV.aJ UInt8 (List.take (Int.toNat (Int.ofNat y.length - 1) - Int.toNat 1) (List.drop (Int.toNat 1) y)) cG=
 SV.aJ UInt8 (List.take (y.length - 2) (List.drop 1 y)) cG/\
 az (Int.ofNat (List.length (List.take (Int.toNat (Int.ofNat y.length - 1) - Int.toNat 1) (List.drop (Int.toNat 1) y))))
 (Int.ofNat (List.length (List.take (y.length - 2) (List.drop 1 y))))/\
 az 0 ↑x/\True)/\
 True/\True)/\
 ∀(x:Nat),
 (x<=List.length (List.take (y.length - 2) (List.drop 1 y))/\
 ∀(j:Nat) (h:j<List.length (List.take (y.length - 2) (List.drop 1 y))),
 j<x->cJ (List.take (y.length - 2) (List.drop 1 y))[j]=true)->
 br (bV (↑x) (Int.ofNat (List.length (List.take (y.length - 2) (List.drop 1 y)))))
 (so (List.take (y.length - 2) (List.drop 1 y))[Int.toNat ↑x]? fun(val:UInt8)=>
 br (bG 48 (Int.ofNat (UInt8.toNat val)))
 (br (bG (Int.ofNat (UInt8.toNat val)) 57)
 (ck (bC .i64 (↑x+1))
 (∃(y_1:Nat),
 (y_1<=List.length (List.take (y.length - 2) (List.drop 1 y))/\
 ∀(j:Nat) (h:j<List.length (List.take (y.length - 2) (List.drop 1 y))),
 j<y_1->cJ (List.take (y.length - 2) (List.drop 1 y))[j]=true)/\
 aK.μ (gy y) y_1<aK.μ (gy y) x/\
 (SV.aJ UInt8 (List.take (y.length - 2) (List.drop 1 y)) cG=
 SV.aJ UInt8 (List.take (y.length - 2) (List.drop 1 y)) cG/\
 az (Int.ofNat (List.length (List.take (y.length - 2) (List.drop 1 y))))
 (Int.ofNat (List.length (List.take (y.length - 2) (List.drop 1 y))))/\
 az (↑x+1) ↑y_1/\True)/\
 True/\True))
 (br (bG 97 (Int.ofNat (UInt8.toNat val)))
 (br (bG (Int.ofNat (UInt8.toNat val)) 102)
 (ck (bC .i64 (↑x+1))
 (∃(y_1:Nat),
 (y_1<=List.length (List.take (y.length - 2) (List.drop 1 y))/\
 ∀(j:Nat) (h:j<List.length (List.take (y.length - 2) (List.drop 1 y))),
 j<y_1->cJ (List.take (y.length - 2) (List.drop 1 y))[j]=true)/\
 aK.μ (gy y) y_1<aK.μ (gy y) x/\
 (SV.aJ UInt8 (List.take (y.length - 2) (List.drop 1 y)) cG=
 SV.aJ UInt8 (List.take (y.length - 2) (List.drop 1 y)) cG/\
 az (Int.ofNat (List.length (List.take (y.length - 2) (List.drop 1 y))))
 (Int.ofNat (List.length (List.take (y.length - 2) (List.drop 1 y))))/\
 az (↑x+1) ↑y_1/\True)/\
 True/\True))
 (br (Int.ofNat (UInt8.toNat val)==58)
 (ck (bC .i64 (↑x+1))
 (∃(y_1:Nat),
 (y_1<=List.length (List.take (y.length - 2) (List.drop 1 y))/\
 ∀(j:Nat) (h:j<List.length (List.take (y.length - 2) (List.drop 1 y))),
 j<y_1->cJ (List.take (y.length - 2) (List.drop 1 y))[j]=true)/\
 aK.μ (gy y) y_1<aK.μ (gy y) x/\
 (SV.aJ UInt8 (List.take (y.length - 2) (List.drop 1 y)) cG=
 SV.aJ UInt8 (List.take (y.length - 2) (List.drop 1 y)) cG/\
 az (Int.ofNat (List.length (List.take (y.length - 2) (List.drop 1 y))))
 (Int.ofNat (List.length (List.take (y.length - 2) (List.drop 1 y))))/\
 az (↑x+1) ↑y_1/\True)/\
 True/\True))
 (br (!Int.ofNat (UInt8.toNat val)==46) (false=eT y/\True)
 (ck (bC .i64 (↑x+1))
 (∃(y_1:Nat),
 (y_1<=List.length (List.take (y.length - 2) (List.drop 1 y))/\
 ∀(j:Nat) (h:j<List.length (List.take (y.length - 2) (List.drop 1 y))),
 j<y_1->cJ (List.take (y.length - 2) (List.drop 1 y))[j]=true)/\
 aK.μ (gy y) y_1<aK.μ (gy y) x/\
 (SV.aJ UInt8 (List.take (y.length - 2) (List.drop 1 y)) cG=
 SV.aJ UInt8 (List.take (y.length - 2) (List.drop 1 y)) cG/\
 az (Int.ofNat (List.length (List.take (y.length - 2) (List.drop 1 y))))
 (Int.ofNat (List.length (List.take (y.length - 2) (List.drop 1 y))))/\
 az (↑x+1) ↑y_1/\True)/\
 True/\True)))))
 (br (Int.ofNat (UInt8.toNat val)==58)
 (ck (bC .i64 (↑x+1))
 (∃(y_1:Nat),
 (y_1<=List.length (List.take (y.length - 2) (List.drop 1 y))/\
 ∀(j:Nat) (h:j<List.length (List.take (y.length - 2) (List.drop 1 y))),
 j<y_1->cJ (List.take (y.length - 2) (List.drop 1 y))[j]=true)/\
 aK.μ (gy y) y_1<aK.μ (gy y) x/\
 (SV.aJ UInt8 (List.take (y.length - 2) (List.drop 1 y)) cG=
 SV.aJ UInt8 (List.take (y.length - 2) (List.drop 1 y)) cG/\
 az (Int.ofNat (List.length (List.take (y.length - 2) (List.drop 1 y))))
 (Int.ofNat (List.length (List.take (y.length - 2) (List.drop 1 y))))/\
 az (↑x+1) ↑y_1/\True)/\
 True/\True))
 (br (!Int.ofNat (UInt8.toNat val)==46) (false=eT y/\True)
 (ck (bC .i64 (↑x+1))
 (∃(y_1:Nat),
 (y_1<=List.length (List.take (y.length - 2) (List.drop 1 y))/\
 ∀(j:Nat) (h:j<List.length (List.take (y.length - 2) (List.drop 1 y))),
 j<y_1->cJ (List.take (y.length - 2) (List.drop 1 y))[j]=true)/\
 aK.μ (gy y) y_1<aK.μ (gy y) x/\
 (SV.aJ UInt8 (List.take (y.length - 2) (List.drop 1 y)) cG=
 SV.aJ UInt8 (List.take (y.length - 2) (List.drop 1 y)) cG/\
 az (Int.ofNat (List.length (List.take (y.length - 2) (List.drop 1 y))))
 (Int.ofNat (List.length (List.take (y.length - 2) (List.drop 1 y))))/\
 az (↑x+1) ↑y_1/\True)/\
 True/\True))))))
 (br (bG 97 (Int.ofNat (UInt8.toNat val)))
 (br (bG (Int.ofNat (UInt8.toNat val)) 102)
 (ck (bC .i64 (↑x+1))
 (∃(y_1:Nat),
 (y_1<=List.length (List.take (y.length - 2) (List.drop 1 y))/\
 ∀(j:Nat) (h:j<List.length (List.take (y.length - 2) (List.drop 1 y))),
 j<y_1->cJ (List.take (y.length - 2) (List.drop 1 y))[j]=true)/\
 aK.μ (gy y) y_1<aK.μ (gy y) x/\
 (SV.aJ UInt8 (List.take (y.length - 2) (List.drop 1 y)) cG=
 SV.aJ UInt8 (List.take (y.length - 2) (List.drop 1 y)) cG/\
 az (Int.ofNat (List.length (List.take (y.length - 2) (List.drop 1 y))))
 (Int.ofNat (List.length (List.take (y.length - 2) (List.drop 1 y))))/\
 az (↑x+1) ↑y_1/\True)/\
 True/\True))
 (br (Int.ofNat (UInt8.toNat val)==58)
 (ck (bC .i64 (↑x+1))
 (∃(y_1:Nat),
 (y_1<=List.length (List.take (y.length - 2) (List.drop 1 y))/\
 ∀(j:Nat) (h:j<List.length (List.take (y.length - 2) (List.drop 1 y))),
 j<y_1->cJ (List.take (y.length - 2) (List.drop 1 y))[j]=true)/\
 aK.μ (gy y) y_1<aK.μ (gy y) x/\
 (SV.aJ UInt8 (List.take (y.length - 2) (List.drop 1 y)) cG=
 SV.aJ UInt8 (List.take (y.length - 2) (List.drop 1 y)) cG/\
 az (Int.ofNat (List.length (List.take (y.length - 2) (List.drop 1 y))))
 (Int.ofNat (List.length (List.take (y.length - 2) (List.drop 1 y))))/\
 az (↑x+1) ↑y_1/\True)/\
 True/\True))
 (br (!Int.ofNat (UInt8.toNat val)==46) (false=eT y/\True)
 (ck (bC .i64 (↑x+1))
 (∃(y_1:Nat),
 (y_1<=List.length (List.take (y.length - 2) (List.drop 1 y))/\
 ∀(j:Nat) (h:j<List.length (List.take (y.length - 2) (List.drop 1 y))),
 j<y_1->cJ (List.take (y.length - 2) (List.drop 1 y))[j]=true)/\
 aK.μ (gy y) y_1<aK.μ (gy y) x/\
 (SV.aJ UInt8 (List.take (y.length - 2) (List.drop 1 y)) cG=
 SV.aJ UInt8 (List.take (y.length - 2) (List.drop 1 y)) cG/\
 az (Int.ofNat (List.length (List.take (y.length - 2) (List.drop 1 y))))
 (Int.ofNat (List.length (List.take (y.length - 2) (List.drop 1 y))))/\
 az (↑x+1) ↑y_1/\True)/\
 True/\True)))))
 (br (Int.ofNat (UInt8.toNat val)==58)
 (ck (bC .i64 (↑x+1))
 (∃(y_1:Nat),
 (y_1<=List.length (List.take (y.length - 2) (List.drop 1 y))/\
 ∀(j:Nat) (h:j<List.length (List.take (y.length - 2) (List.drop 1 y))),
 j<y_1->cJ (List.take (y.length - 2) (List.drop 1 y))[j]=true)/\
 aK.μ (gy y) y_1<aK.μ (gy y) x/\
 (SV.aJ UInt8 (List.take (y.length - 2) (List.drop 1 y)) cG=
 SV.aJ UInt8 (List.take (y.length - 2) (List.drop 1 y)) cG/\
 az (Int.ofNat (List.length (List.take (y.length - 2) (List.drop 1 y))))
 (Int.ofNat (List.length (List.take (y.length - 2) (List.drop 1 y))))/\
 az (↑x+1) ↑y_1/\True)/\
 True/\True))
 (br (!Int.ofNat (UInt8.toNat val)==46) (false=eT y/\True)
 (ck (bC .i64 (↑x+1))
 (∃(y_1:Nat),
 (y_1<=List.length (List.take (y.length - 2) (List.drop 1 y))/\
 ∀(j:Nat) (h:j<List.length (List.take (y.length - 2) (List.drop 1 y))),
 j<y_1->cJ (List.take (y.length - 2) (List.drop 1 y))[j]=true)/\
 aK.μ (gy y) y_1<aK.μ (gy y) x/\
 (SV.aJ UInt8 (List.take (y.length - 2) (List.drop 1 y)) cG=
 SV.aJ UInt8 (List.take (y.length - 2) (List.drop 1 y)) cG/\
 az (Int.ofNat (List.length (List.take (y.length - 2) (List.drop 1 y))))
 (Int.ofNat (List.length (List.take (y.length - 2) (List.drop 1 y))))/\
 az (↑x+1) ↑y_1/\True)/\
 True/\True))))))
 (true=eT y/\True))))))))))):=by kernel_rfl
theorem N1:(dh (fun(y:aP.Y (fE eT))=>bQ di (cS lH 4 (gu y))) 400 lH)=(∀(y:List UInt8),
 y.length<=100000->
 br (bV (Int.ofNat y.length) 4) (false=eT y/\True)
 (br (bV 47 (Int.ofNat y.length)) (false=eT y/\True)
 (so y[Int.toNat 0]? fun(val:UInt8)=>
 br (!Int.ofNat (UInt8.toNat val)==91) (false=eT y/\True)
 (ck (bC .i64 (Int.ofNat y.length - 1))
 (ck (nn (Int.ofNat y.length - 1))
 (so y[Int.toNat (Int.ofNat y.length - 1)]? fun(val:UInt8)=>
 br (!Int.ofNat (UInt8.toNat val)==93) (false=eT y/\True)
 ((∃(x:Nat),
 (1<=x/\x+1<=y.length/\ ∀(j:Nat) (h:j<y.length),1<=j->j<x->cJ y[j]=true)/\
 (y=y/\az 1 ↑x/\True)/\True/\True)/\
 ∀(x:Nat),
 (1<=x/\x+1<=y.length/\ ∀(j:Nat) (h:j<y.length),1<=j->j<x->cJ y[j]=true)->
 ck (bC .i64 (Int.ofNat y.length - 1))
 (br (bV (↑x) (Int.ofNat y.length - 1))
 (so y[Int.toNat ↑x]? fun(val:UInt8)=>
 br (bG 48 (Int.ofNat (UInt8.toNat val)))
 (br (bG (Int.ofNat (UInt8.toNat val)) 57)
 (ck (bC .i64 (↑x+1))
 (∃(y_1:Nat),
 (1<=y_1/\y_1+1<=y.length/\ ∀(j:Nat) (h:j<y.length),1<=j->j<y_1->cJ y[j]=true)/\
 aK.μ (gu y) y_1<aK.μ (gu y) x/\(y=y/\az (↑x+1) ↑y_1/\True)/\True/\True))
 (br (bG 97 (Int.ofNat (UInt8.toNat val)))
 (br (bG (Int.ofNat (UInt8.toNat val)) 102)
 (ck (bC .i64 (↑x+1))
 (∃(y_1:Nat),
 (1<=y_1/\y_1+1<=y.length/\ ∀(j:Nat) (h:j<y.length),1<=j->j<y_1->cJ y[j]=true)/\
 aK.μ (gu y) y_1<aK.μ (gu y) x/\(y=y/\az (↑x+1) ↑y_1/\True)/\True/\True))
 (br (Int.ofNat (UInt8.toNat val)==58)
 (ck (bC .i64 (↑x+1))
 (∃(y_1:Nat),
 (1<=y_1/\y_1+1<=y.length/\ ∀(j:Nat) (h:j<y.length),1<=j->j<y_1->cJ y[j]=true)/\
 aK.μ (gu y) y_1<aK.μ (gu y) x/\
 (y=y/\az (↑x+1) ↑y_1/\True)/\True/\True))
 (br (!Int.ofNat (UInt8.toNat val)==46) (false=eT y/\True)
 (ck (bC .i64 (↑x+1))
 (∃(y_1:Nat),
 (1<=y_1/\y_1+1<=y.length/\ ∀(j:Nat) (h:j<y.length),1<=j->j<y_1->cJ y[j]=true)/\
 aK.μ (gu y) y_1<aK.μ (gu y) x/\
 (y=y/\az (↑x+1) ↑y_1/\True)/\True/\True)))))
 (br (Int.ofNat (UInt8.toNat val)==58)
 (ck (bC .i64 (↑x+1))
 (∃(y_1:Nat),
 (1<=y_1/\y_1+1<=y.length/\ ∀(j:Nat) (h:j<y.length),1<=j->j<y_1->cJ y[j]=true)/\
 aK.μ (gu y) y_1<aK.μ (gu y) x/\(y=y/\az (↑x+1) ↑y_1/\True)/\True/\True))
 (br (!Int.ofNat (UInt8.toNat val)==46) (false=eT y/\True)
 (ck (bC .i64 (↑x+1))
 (∃(y_1:Nat),
 (1<=y_1/\y_1+1<=y.length/\ ∀(j:Nat) (h:j<y.length),1<=j->j<y_1->cJ y[j]=true)/\
 aK.μ (gu y) y_1<aK.μ (gu y) x/\
 (y=y/\az (↑x+1) ↑y_1/\True)/\True/\True))))))
 (br (bG 97 (Int.ofNat (UInt8.toNat val)))
 (br (bG (Int.ofNat (UInt8.toNat val)) 102)
 (ck (bC .i64 (↑x+1))
 (∃(y_1:Nat),
 (1<=y_1/\y_1+1<=y.length/\ ∀(j:Nat) (h:j<y.length),1<=j->j<y_1->cJ y[j]=true)/\
 aK.μ (gu y) y_1<aK.μ (gu y) x/\(y=y/\az (↑x+1) ↑y_1/\True)/\True/\True))
 (br (Int.ofNat (UInt8.toNat val)==58)
 (ck (bC .i64 (↑x+1))
 (∃(y_1:Nat),
 (1<=y_1/\y_1+1<=y.length/\ ∀(j:Nat) (h:j<y.length),1<=j->j<y_1->cJ y[j]=true)/\
 aK.μ (gu y) y_1<aK.μ (gu y) x/\(y=y/\az (↑x+1) ↑y_1/\True)/\True/\True))
 (br (!Int.ofNat (UInt8.toNat val)==46) (false=eT y/\True)
 (ck (bC .i64 (↑x+1))
 (∃(y_1:Nat),
 (1<=y_1/\y_1+1<=y.length/\ ∀(j:Nat) (h:j<y.length),1<=j->j<y_1->cJ y[j]=true)/\
 aK.μ (gu y) y_1<aK.μ (gu y) x/\
 (y=y/\az (↑x+1) ↑y_1/\True)/\True/\True)))))
 (br (Int.ofNat (UInt8.toNat val)==58)
 (ck (bC .i64 (↑x+1))
 (∃(y_1:Nat),
 (1<=y_1/\y_1+1<=y.length/\ ∀(j:Nat) (h:j<y.length),1<=j->j<y_1->cJ y[j]=true)/\
 aK.μ (gu y) y_1<aK.μ (gu y) x/\(y=y/\az (↑x+1) ↑y_1/\True)/\True/\True))
 (br (!Int.ofNat (UInt8.toNat val)==46) (false=eT y/\True)
 (ck (bC .i64 (↑x+1))
 (∃(y_1:Nat),
 (1<=y_1/\y_1+1<=y.length/\ ∀(j:Nat) (h:j<y.length),1<=j->j<y_1->cJ y[j]=true)/\
 aK.μ (gu y) y_1<aK.μ (gu y) x/\
 (y=y/\az (↑x+1) ↑y_1/\True)/\True/\True))))))
 (true=eT y/\True))))))))):=by kernel_rfl
theorem Pg:(dh (fun(y:aP.Y (fE gA))=>bQ nV (dM y)) 400 pw)=(∀(y:List UInt8),
 y.length<=100000->
 ∃(y_1:List UInt8),
 y=y_1/\
 y_1.length<=100000/\
 br (fi y_1) (true=gA y/\True)
 (∃(y_2:List UInt8),y=y_2/\y_2.length<=100000/\eT y_2=gA y/\True)):=by kernel_rfl
theorem Q5:(dh (fun(y:aP.Y (fE gA))=>bQ nV (dM y)) 400 py)=(∀(y:List UInt8),
 y.length<=100000->
 ∃(y_1:List UInt8),
 y=y_1/\
 y_1.length<=100000/\
 br (fi y_1) (true=gA y/\True)
 (∃(y_2:List UInt8),y=y_2/\y_2.length<=100000/\eT y_2=gA y/\True)):=by kernel_rfl
theorem QH:(dh (fun(y:aP.Y (fE fp))=>bQ wo (cS l3 4 (vW y))) 400 l3)=(∀(y:List UInt8),
 y.length<=100000->
 br (bV 256 (Int.ofNat y.length)) (false=fp y/\True)
 (∃(y_1:List UInt8),
 y=y_1/\
 y_1.length<=100000/\
 br (gA y_1) (false=fp y/\True)
 (∃(y_2:Bs×Int),
 y=y_2.1/\
 az 46 y_2.2/\
 y_2.1.length<=100000/\
 (∃(x:Nat),
 (x<=List.length (aO y 46)/\
 ∀(j:Nat) (h:j<List.length (aO y 46)),j<x->eI (aO y 46)[j]=true)/\
 (SV.aJ Bs (aO y_2.1 y_2.2) eR=
 SV.aJ Bs (aO y 46) eR/\
 az (Int.ofNat (List.length (aO y_2.1 y_2.2))) (Int.ofNat (List.length (aO y 46)))/\
 az 0 ↑x/\True)/\
 True/\True)/\
 ∀(x:Nat),
 (x<=List.length (aO y 46)/\
 ∀(j:Nat) (h:j<List.length (aO y 46)),j<x->eI (aO y 46)[j]=true)->
 br (bV (↑x) (Int.ofNat (List.length (aO y 46))))
 (so (aO y 46)[Int.toNat ↑x]? fun(val:Bs)=>
 ∃(y_3:List UInt8),
 val=y_3/\
 y_3.length<=100000/\
 br (!eI y_3) (false=fp y/\True)
 (ck (bC .i64 (↑x+1))
 (∃(y_4:Nat),
 (y_4<=List.length (aO y 46)/\
 ∀(j:Nat) (h:j<List.length (aO y 46)),j<y_4->eI (aO y 46)[j]=true)/\
 aK.μ (vW y) y_4<aK.μ (vW y) x/\
 (SV.aJ Bs (aO y 46) eR=
 SV.aJ Bs (aO y 46) eR/\
 az (Int.ofNat (List.length (aO y 46))) (Int.ofNat (List.length (aO y 46)))/\
 az (↑x+1) ↑y_4/\True)/\
 True/\True)))
 (true=fp y/\True)))):=by kernel_rfl
theorem Qo:(dh (fun(y:aP.Y (fE fp))=>bQ nV (cS lV 5 (vu y))) 400 lV)=(∀(y:List UInt8),
 y.length<=100000->
 br (bV 256 (Int.ofNat y.length)) (false=fp y/\True)
 (∃(y_1:List UInt8),
 y=y_1/\
 y_1.length<=100000/\
 br (fi y_1) (false=fp y/\True)
 (∃(y_2:Bs×Int),
 y=y_2.1/\
 az 46 y_2.2/\
 y_2.1.length<=100000/\
 (∃(x:Nat),
 (x<=List.length (aO y 46)/\
 ∀(j:Nat) (h:j<List.length (aO y 46)),j<x->eI (aO y 46)[j]=true)/\
 (SV.aJ Bs (aO y_2.1 y_2.2) eR=
 SV.aJ Bs (aO y 46) eR/\
 az 0 ↑x/\True)/\
 True/\True)/\
 ∀(x:Nat),
 (x<=List.length (aO y 46)/\
 ∀(j:Nat) (h:j<List.length (aO y 46)),j<x->eI (aO y 46)[j]=true)->
 br (bV (↑x) (Int.ofNat (List.length (aO y 46))))
 (so (aO y 46)[Int.toNat ↑x]? fun(val:Bs)=>
 ∃(y_3:List UInt8),
 val=y_3/\
 y_3.length<=100000/\
 br (!eI y_3) (false=fp y/\True)
 (ck (bC .i64 (↑x+1))
 (∃(y_4:Nat),
 (y_4<=List.length (aO y 46)/\
 ∀(j:Nat) (h:j<List.length (aO y 46)),j<y_4->eI (aO y 46)[j]=true)/\
 aK.μ (vu y) y_4<aK.μ (vu y) x/\
 (SV.aJ Bs (aO y 46) eR=
 SV.aJ Bs (aO y 46) eR/\
 az (↑x+1) ↑y_4/\True)/\
 True/\True)))
 (true=fp y/\True)))):=by kernel_rfl
end
section
variable [Inhabited aF]
section
variable {α:Type} {l:List α} {p:α->Bool} {x:Nat}
theorem ql (h:∀(j:Nat) (h:j<l.length),j<x->p l[j]=true) (hx:¬(x:Int)<Int.ofNat l.length):l.all p=true:=by
 rw[AE];intro a ha;obtain⟨j,hj,rfl⟩:=BB ha;exact h j hj (by simp only[Aa]at hx;omega)
theorem rV (h:x<l.length) (hp:p l[x]=false):l.all p=false:=by
 rw[AN];intro ha;rw[AE]at ha;rw[ha _ (AF h)]at hp
 cases hp
theorem qm (h:∀(j:Nat) (h:j<l.length),j<x->p l[j]=true) (hx:x<l.length) (hp:p l[x]=true):∀(j:Nat) (h:j<l.length),j<x+1->p l[j]=true:=by
 intro j hj hjx;by_cases e:j=x
 . subst e;exact hp
 . exact h j hj (by omega)
end
theorem cY {x n:Nat} (h:bV (x:Int) (Int.ofNat n)=true):x<n:=by
 rw[cm,Ae,Aa]at h;omega
theorem kC {x n:Nat} (h:bV (x:Int) (Int.ofNat n)=false):¬(x:Int)<Int.ofNat n:=by
 rw[cm,Ai]at h;exact h
theorem dz {α:Type} {l:List α} {x:Nat} (h:x<l.length):l[Int.toNat (x:Int)]? =some l[x]:=by simp[h]
theorem Px:CO pT yR:=bZ (cfg:=fun y=>bQ di (dM y)) bH (fun _=>rfl) (fun _=>kg) (n:=400) (by
 rw[Qq];rintro⟨b,e⟩ -;simp only[aj,fg,fO,Dv,Ae,Ai,BJ,Db];refine⟨fun h=>⟨fun h2=>by simp[h,h2],fun h2=>by simp[h,h2]⟩,fun h=>⟨fun h1=>⟨fun h2=>?_,fun h2=>⟨fun h3=>⟨fun h4=>?_,fun h4=>⟨fun h5=>?_,fun h5=>?_⟩⟩,fun h3=>⟨fun h5=>?_,fun h5=>?_⟩⟩⟩,fun h1=>⟨fun h3=>⟨fun h4=>?_,fun h4=>⟨fun h5=>?_,fun h5=>?_⟩⟩,fun h3=>⟨fun h5=>?_,fun h5=>?_⟩⟩⟩⟩
 all_goals (simp_all<;>omega))
theorem Rz:CO pN y7:=bZ (cfg:=fun y=>bQ di (dM y)) bH (fun _=>rfl) (fun _=>kg) (n:=400) (by
 rw[QJ];intro b _;simp only[aj,fg,gB,Dv,Ae,Ai,BJ,Db];refine⟨fun h1=>⟨fun h2=>?_,fun h2=>⟨fun h3=>⟨fun h4=>?_,fun h4=>⟨fun h5=>?_,fun h5=>?_⟩⟩,fun h3=>⟨fun h5=>?_,fun h5=>?_⟩⟩⟩,fun h1=>⟨fun h3=>⟨fun h4=>?_,fun h4=>⟨fun h5=>?_,fun h5=>?_⟩⟩,fun h3=>⟨fun h5=>?_,fun h5=>?_⟩⟩⟩
 all_goals (simp_all<;>omega))
theorem qo:∀g C,kO g=some C->CO g C:=bX Px (bX Rz NS)
theorem uU (b:UInt8) (e:Bool):fO (nB b) e=(gB b&& !(nB b==45&&e)):=by
 unfold fO gB;by_cases h:nB b=45
 . simp[h]
 . have:(nB b==45)=false:=by simpa using h
   simp[h,this]
theorem jh (b:UInt8):b=45↔nB b=45:=⟨fun h=>by rw[h];rfl,fun h=>sI (h.trans rfl)⟩
theorem Fy (s:Bs) (h0:s≠[]) (h63:s.length<=63):eI s=true↔∀(j:Nat) (h:j<s.length),fO (nB s[j]) (j==0||j==s.length - 1)=true:=by
 have hp:0<s.length:=AZ.2 h0;have hhd:s.head? =some s[0]:=by rw[Dm];simp[hp]
 have htl:s.getLast? =some (s[s.length - 1]'(by omega)):=by rw[Eb];simp[hp]
 unfold eI;rw[hhd,htl];simp only[Ab,bne_iff_ne,ne_eq,h0,Bf,Ae,h63,true_and,AE,AL];constructor
 . rintro⟨⟨h1,h2⟩,h3⟩ j hj;rw[uU,h1 _ (AF hj)];by_cases e0:j=0
   . subst e0;rw[jh]at h2;simp[h2]
   . by_cases e1:j=s.length - 1
     . subst e1;rw[jh]at h3;simp[h3]
     . simp[e0,e1]
 . intro h;refine⟨⟨fun b hb=>?_,?_⟩,?_⟩
   . obtain⟨j,hj,rfl⟩:=BB hb;have:=h j hj;rw[uU,Ab]at this;exact this.1
   . have:=h 0 hp;rw[uU,Ab]at this;rw[jh];have h2:=this.2;simpa using h2
   . have:=h (s.length - 1) (by omega);rw[uU,Ab]at this;rw[jh];have h2:=this.2;simpa using h2
theorem CE {s:Bs} (h0:s≠[]) (h63:s.length<=63) {x:Nat} (h:x<s.length) (hx:fO (nB s[x]) (x==0||x==s.length - 1)=false):eI s=false:=by
 rw[AN];intro hl;rw[(Fy s h0 h63).1 hl x h]at hx
 cases hx
theorem Fx {s:Bs} (h:63<s.length):eI s=false:=by
 unfold eI;have:decide (s.length<=63)=false:=by simp;omega
 simp[this]
theorem Qb:CO lS (fE eI):=bZ (cfg:=fun y=>bQ kO (cS lS 4 (nR y))) bH (fun _=>rfl) (fun _=>qo) (n:=400) (by
 rw[Pm];intro s hpre;have hpre:s.length<=100000:=hpre;refine aj.2 ⟨fun h=>?_,fun h=>aj.2 ⟨fun h2=>?_,fun h2=>⟨⟨0,⟨by simp,fun j h hj=>by omega⟩,⟨rfl,rfl,rfl,trivial⟩,trivial,trivial⟩,?_⟩⟩⟩
 . have:s=[]:=by simpa using h
   subst this;exact⟨rfl,trivial⟩
 . rw[cm,Ae,Aa]at h2;exact⟨(Fx (by omega)).symm,trivial⟩
 have h0:s≠[]:=by simpa using h
 have h63:s.length<=63:=by
   rw[cm,Ai,Aa]at h2;omega
 rintro x ⟨hx,hall⟩;refine aj.2 ⟨fun hlt=>ar.2 ⟨_,dz (cY hlt),?_⟩,fun hge=>⟨((Fy s h0 h63).2 fun j hj=>hall j hj (by have:=kC hge;simp only[Aa]at this;omega)).symm,trivial⟩⟩;have hlt':=cY hlt;have next:fO (nB s[x]) (x==0||x==s.length - 1)=true->∃(y_2:Nat),(y_2<=s.length/\ ∀(j:Nat) (h:j<s.length),j<y_2->fO (nB s[j]) (j==0||j==s.length - 1)=true)/\(nR s).μ y_2<(nR s).μ x/\(s=s/\az (Int.ofNat s.length) (Int.ofNat s.length)/\az (↑x+1) ↑y_2/\True)/\True/\True:=by
   intro he;refine⟨x+1,⟨by omega,fun j hj hjx=>?_⟩,?_,⟨rfl,rfl,by simp[az],trivial⟩,trivial,trivial⟩
   . by_cases e:j=x
     . subst e;exact he
     . exact hall j hj (by omega)
   . show s.length - (x+1)<s.length - x
     omega
 refine aj.2 ⟨fun hx0=>⟨(s[x],true),rfl,rfl,trivial,aj.2 ⟨fun hs=>?_,fun hs=>ah.2 ⟨cM x (by omega),next ?_⟩⟩⟩,fun hx0=>ah.2 ⟨by rw[gJ,Aa];omega,(s[x],(x:Int)==Int.ofNat s.length - 1),rfl,rfl,trivial,aj.2 ⟨fun hs=>?_,fun hs=>ah.2 ⟨cM x (by omega),next ?_⟩⟩⟩⟩
 . have:x=0:=by simpa using hx0
   subst this;exact⟨(CE h0 h63 hlt' (by simpa using hs)).symm,trivial⟩
 . have:x=0:=by simpa using hx0
   subst this;simpa using hs
 . have hx1:¬x=0:=by simpa using hx0
   have e:((x:Int)==Int.ofNat s.length - 1)=(x==0||x==s.length - 1):=by
     rw[A4];simp[hx1];omega
   rw[e]at hs;exact⟨(CE h0 h63 hlt' (by simpa using hs)).symm,trivial⟩
 . have hx1:¬x=0:=by simpa using hx0
   have e:((x:Int)==Int.ofNat s.length - 1)=(x==0||x==s.length - 1):=by
     rw[A4];simp[hx1];omega
   rw[e]at hs;simpa using hs)
theorem Cg {s:Bs} {x:Nat} (h:x<s.length) (hx:gB s[x]=false):eI s=false:=by
 unfold eI;rw[rV h hx];simp
theorem OW:CO lQ (fE eI):=bZ (cfg:=fun y=>bQ kO (cS lQ 4 (ve y))) bH (fun _=>rfl) (fun _=>qo) (n:=400) (by
 rw[N2];intro s hpre;have hpre:s.length<=100000:=hpre;refine aj.2 ⟨fun h=>?_,fun h=>aj.2 ⟨fun h2=>?_,fun h2=>?_⟩⟩
 . rw[cm,Ae,Aa]at h;have:s=[]:=AG (by omega);subst this;exact⟨rfl,trivial⟩
 . rw[cm,Ae,Aa]at h2;exact⟨(Fx (by omega)).symm,trivial⟩
 rw[cm,Ai,Aa]at h h2;have hp:0<s.length:=by omega
 have h0:s≠[]:=AZ.1 hp;have hhd:s.head? =some s[0]:=by rw[Dm];simp[hp]
 have htl:s.getLast? =some (s[s.length - 1]'(by omega)):=by rw[Eb];simp[hp]
 have hlast:s[Int.toNat (Int.ofNat s.length - 1)]? =some (s[s.length - 1]'(by omega)):=by
   rw[show Int.toNat (Int.ofNat s.length - 1)=s.length - 1 by rw[Aa];omega];simp[hp]
 refine ar.2 ⟨s[0],by simp[hp],aj.2 ⟨fun h3=>?_,fun h3=>ah.2 ⟨by rw[gJ,Aa];omega,ah.2 ⟨by rw[mB,Ae,Aa];omega,ar.2 ⟨_,hlast,aj.2 ⟨fun h4=>?_,fun h4=>⟨⟨0,⟨by simp,fun j h hj=>by omega⟩,⟨rfl,rfl,trivial⟩,trivial,trivial⟩,?_⟩⟩⟩⟩⟩⟩⟩
 . have:s[0]=45:=by rw[jh];simpa [nB]using h3
   refine⟨?_,trivial⟩;unfold eI;rw[hhd,this];simp
 . have:s[s.length - 1]'(by omega)=45:=by rw[jh];simpa [nB]using h4
   refine⟨?_,trivial⟩;unfold eI;rw[htl,this];simp
 rintro x ⟨hx,hall⟩;refine aj.2 ⟨fun hlt=>ar.2 ⟨_,dz (cY hlt),s[x]'(cY hlt),rfl,trivial,aj.2 ⟨fun hs=>⟨(Cg (cY hlt) (by simpa using hs)).symm,trivial⟩,fun hs=>ah.2 ⟨cM x (by have:=cY hlt;omega),x+1,⟨cY hlt,qm hall (cY hlt) (by simpa using hs)⟩,?_,⟨rfl,by simp[az],trivial⟩,trivial,trivial⟩⟩⟩,fun hge=>⟨?_,trivial⟩⟩
 . have:=cY hlt;show s.length - (x+1)<s.length - x
   omega
 . have ha:=ql hall (kC hge);have n1:s[0]≠45:=by intro e;rw[jh]at e;simp[nB]at e h3;exact h3 e
   have n2:(s[s.length - 1]'(by omega))≠45:=by intro e;rw[jh]at e;simp[nB]at e h4;exact h4 e
   unfold eI;rw[ha,hhd,htl];simp[h0,n1,n2];omega)
theorem Ic {p:Bs} (h0:p≠[]) (hd:∀b∈p,cX b=true):aX p=(p.foldl bK 0,true):=by
 cases p with
 |nil=>exact absurd rfl h0
 | cons b s=>
  have hb:=(nQ b).1 (hd b Ao);have hn:cj (b::s)=false:=by
   show(nB b==45)=false
   rw[Db];omega
  have ha:=rU hn;rw[yE (by rw[ha];simp) (by rw[ha];exact hd),ha,hn];simp
theorem qC {b:UInt8} {n:Nat} (h:nB b=48+(n:Int)):UInt8.ofNat (48+n)=b:=by
 apply sI;have:=OK b;rw[h];unfold nB;rw[UInt8.toNat_ofNat'];rw[Nat.mod_eq_of_lt (by omega)];simp
theorem me {b:UInt8} (h:cX b=true):∃d:Nat,d<=9/\nB b=48+(d:Int):=by
 rw[nQ]at h;exact⟨(nB b - 48).toNat,by omega,by omega⟩
theorem mc {n:Int} {b:UInt8} {d:Nat} (hb:nB b=48+(d:Int)) (hd:d<=9) (h0:0<=n) (hn:n<=100000):bK n b=n*10+d:=by
 unfold bK;rw[hb];omega
theorem PQ (s:Bs) (hd:∀b∈s,cX b=true):∀n:Int,1000<=n->n<=1099511627776->1000<=s.foldl bK n:=by
 induction s with
 |nil=>intro n h _;exact h
 |cons b s ih=>
  intro n h1 h2;have hb:=(nQ b).1 (hd b Ao);refine ih (fun c hc=>hd c (An _ hc)) _ ?_ ?_<;>unfold bK<;>omega
theorem zk (d:Nat) (h:d<=9):iN d=[UInt8.ofNat (48+d)]:=by unfold iN;exact G7 39 d h
theorem Jo (n:Nat) (h:9<n) (h2:n<=99):iN n=[UInt8.ofNat (48+n / 10),UInt8.ofNat (48+n % 10)]:=by
 unfold iN;show kp (39+1) n=_
 have:¬n<=9:=by omega
 simp only[kp,if_neg this];rw[if_pos (by omega)];rfl
theorem R2 (n:Nat) (h:99<n) (h2:n<=999):iN n=[UInt8.ofNat (48+n / 100),UInt8.ofNat (48+n / 10 % 10),UInt8.ofNat (48+n % 10)]:=by
 unfold iN;show kp (39+1) n=_
 have h3:¬n<=9:=by omega
 have h4:¬n / 10<=9:=by omega
 simp only[kp,if_neg h3,if_neg h4];rw[if_pos (by omega)];rw[show n / 10 / 10=n / 100 by omega];rfl
theorem Of {p:Bs} (h1:1<=p.length) (hd:cL p=p.length):0<=(aX p).1/\(aX p).1<=1099511627776:=by
 have hdd:∀b∈p,cX b=true:=ue (by omega);rw[Ic (AZ.1 h1) hdd];exact Cv p hdd 0 (by omega) (by omega)
theorem xJ {p:Bs} (h1:1<=p.length) (hd:cL p=p.length) (h2:(aX p).1<=255):(decide (1<p.length)&&p.head? ==some 48)=false↔(p.length<=3/\iN (aX p).1.toNat=p):=by
 have hdd:∀b∈p,cX b=true:=ue (by omega);rw[Ic (AZ.1 h1) hdd]at h2⊢;simp only at h2⊢;have e48:∀b:UInt8,b=48↔nB b=48:=fun b=>⟨fun h=>by rw[h];rfl,fun h=>sI (h.trans rfl)⟩
 match p,h1 with
 |[a],_=>
  obtain⟨d,d9,hb⟩:=me (hdd a (by simp));simp only[BF,E0,mc hb d9 (EO 0) (by omega)];rw[show((0:Int)*10+(d:Int)).toNat=d by omega,zk d d9,qC hb];simp
 |[a,b],_=>
  obtain⟨d,d9,hb⟩:=me (hdd a (by simp));obtain⟨d2,d29,hb2⟩:=me (hdd b (by simp));simp only[BF,E0,mc hb d9 (EO 0) (by omega)];rw[mc hb2 d29 (by omega) (by omega),show(((0:Int)*10+(d:Int))*10+(d2:Int)).toNat=d*10+d2 by omega];by_cases hz:d=0
  . subst hz;have:a=48:=by rw[e48];simpa using hb
    rw[show 0*10+d2=d2 by omega,zk d2 d29];simp[this]
  . have:a≠48:=by intro e;rw[e48]at e;omega
    rw[Jo _ (by omega) (by omega),show(d*10+d2) / 10=d by omega,show(d*10+d2) % 10=d2 by omega,qC hb,qC hb2];simp[this]
 |[a,b,c],_=>
  obtain⟨d,d9,hb⟩:=me (hdd a (by simp));obtain⟨d2,d29,hb2⟩:=me (hdd b (by simp));obtain⟨d3,d39,hb3⟩:=me (hdd c (by simp));simp only[BF,E0,mc hb d9 (EO 0) (by omega)];rw[mc hb2 d29 (by omega) (by omega),mc hb3 d39 (by omega) (by omega),show((((0:Int)*10+(d:Int))*10+(d2:Int))*10+(d3:Int)).toNat=d*100+d2*10+d3 by omega];by_cases hz:d=0
  . subst hz;have:a=48:=by rw[e48];simpa using hb
    have hlt:(iN (0*100+d2*10+d3)).length<3:=by
     by_cases h:d2=0
     . subst h;rw[show 0*100+0*10+d3=d3 by omega,zk d3 d39];simp
     . rw[Jo _ (by omega) (by omega)];simp
    have hne:iN (0*100+d2*10+d3)≠[a,b,c]:=by
     intro e;rw[e]at hlt;simp at hlt
    simp only[this,A1,Bb,ER];rw[this]at hne;have hne2:iN (d2*10+d3)≠[48,b,c]:=by simpa using hne
    simp[hne2]
  . have:a≠48:=by intro e;rw[e48]at e;omega
    rw[R2 _ (by omega) (by omega),show(d*100+d2*10+d3) / 100=d by omega,show(d*100+d2*10+d3) / 10 % 10=d2 by omega,show(d*100+d2*10+d3) % 10=d3 by omega,qC hb,qC hb2,qC hb3];simp[this]
 |a::b::c::e::s,_=>
  obtain⟨d,d9,hb⟩:=me (hdd a (by simp));obtain⟨d2,d29,hb2⟩:=me (hdd b (by simp));obtain⟨d3,d39,hb3⟩:=me (hdd c (by simp));obtain⟨d4,d49,hb4⟩:=me (hdd e (by simp));have hz:d=0:=by
    apply Bv;intro hz;simp only[BF,mc hb d9 (EO 0) (by omega)]at h2;rw[mc hb2 d29 (by omega) (by omega),mc hb3 d39 (by omega) (by omega),mc hb4 d49 (by omega) (by omega)]at h2;have:=PQ s (fun x hx=>hdd x (by simp[hx])) (((((0:Int)*10+(d:Int))*10+(d2:Int))*10+(d3:Int))*10+(d4:Int)) (by omega) (by omega);omega
  subst hz;have:a=48:=by rw[e48];simpa using hb
  constructor
  . intro h;simp[this]at h
  . rintro⟨h,_⟩;simp at h
theorem FR {s:Bs} {x:Nat} (h:x<(aO s 46).length) (hp:gf (aO s 46)[x]=false):fi s=false:=by
 unfold fi;rw[rV h hp];simp
theorem uO {s:Bs} {x:Nat} (h:x<(aO s 46).length):((aO s 46)[x]).length<=s.length:=K7 s 46 _ (AF h)
theorem Rm:CO lZ (fE fi):=bZ (cfg:=fun y=>bQ kO (cS lZ 5 (nW y))) bH (fun _=>rfl) (fun _=>qo) (n:=400) (by
 rw[Ra];intro s hpre;have hpre:s.length<=100000:=hpre;have hsl:=xp s 46;refine⟨(s,46),rfl,rfl,hpre,aj.2 ⟨fun h=>?_,fun h=>⟨⟨0,⟨by simp,fun j h hj=>by omega⟩,⟨rfl,rfl,rfl,trivial⟩,trivial,trivial⟩,?_⟩⟩⟩
 . refine⟨?_,trivial⟩;unfold fi;have:¬(aO s 46).length=4:=by
     simp only[AI,Db,ne_eq,Aa]at h;omega
   simp[this]
 have h4:(aO s 46).length=4:=by
   simp only[D9,BJ,Aa]at h;omega
 rintro x ⟨hx,hall⟩;refine aj.2 ⟨fun hlt=>ar.2 ⟨_,dz (cY hlt),?_⟩,fun hge=>⟨?_,trivial⟩⟩
 . have hx':=cY hlt;have hpl:=uO hx';have next:gf (aO s 46)[x]=true->ck (bC Go.IntKind.i64 (↑x+1)) (∃(y_4:Nat),(y_4<=(aO s 46).length/\ ∀(j:Nat) (h:j<(aO s 46).length),j<y_4->gf (aO s 46)[j]=true)/\(nW s).μ y_4<(nW s).μ x/\(SV.aJ Bs (aO s 46) eR=SV.aJ Bs (aO s 46) eR/\az (Int.ofNat (aO s 46).length) (Int.ofNat (aO s 46).length)/\az (↑x+1) ↑y_4/\True)/\True/\True):=by
     intro hp;refine ah.2 ⟨cM x (by omega),x+1,⟨hx',qm hall hx' hp⟩,?_,⟨rfl,rfl,by simp[az],trivial⟩,trivial,trivial⟩;show(aO s 46).length - (x+1)<(aO s 46).length - x
     omega
   generalize hpe:(aO s 46)[x]=p at*
   have fail:gf p=false->false=fi s:=fun h=>(FR hx' (by rw[hpe];exact h)).symm
   refine⟨p,rfl,by omega,aj.2 ⟨fun h1=>⟨fail ?_,trivial⟩,fun h1=>⟨p,rfl,by omega,aj.2 ⟨fun h2=>⟨fail ?_,trivial⟩,fun h2=>aj.2 ⟨fun h3=>⟨fail ?_,trivial⟩,fun h3=>aj.2 ⟨fun h5=>?_,fun h5=>next ?_⟩⟩⟩⟩⟩⟩
   . have:p=[]:=by simpa using h1
     subst this;rfl
   . have:=cY h2;unfold gf;have h2':¬cL p=p.length:=by omega
     simp[h2']
   . rw[cm,Ae]at h3;unfold gf;have:¬(aX p).1<=255:=by omega
     simp[this]
   all_goals (have hp0:p≠[]:=by simpa using h1)
   all_goals (have hd:cL p=p.length:=by have:=kC h2;have:=uE p;simp only[Aa]at*;omega)
   all_goals (have h255:(aX p).1<=255:=by rw[cm,Ai]at h3;omega)
   . rw [cm,Ae,Aa]at h5;have hpl1:1<p.length:=by omega
     refine ar.2 ⟨p[0],by simp[show 0<p.length by omega],aj.2 ⟨fun h6=>⟨fail ?_,trivial⟩,fun h6=>next ?_⟩⟩
     . have:p.head? =some 48:=by
        rw[Dm,Ag (by omega)];congr 1
        exact sI (by simpa [nB]using h6)
       unfold gf;simp[this,hpl1]
     . have:¬p.head? =some 48:=by
        rw[Dm,Ag (by omega)];intro e;simp only[AL]at e;rw[e]at h6;simp at h6
       unfold gf;simp[this,hp0,hd,h255]
   . rw[cm,Ai,Aa]at h5;have hpl1:¬1<p.length:=by omega
     unfold gf;simp[hpl1,hp0,hd,h255]
 . unfold fi;rw[ql hall (kC hge)];simp[h4])
theorem Qa:CO lW (fE fi):=bZ (cfg:=fun y=>bQ kO (cS lW 5 (vt y))) bH (fun _=>rfl) (fun _=>qo) (n:=400) (by
 rw[Pl];intro s hpre;have hpre:s.length<=100000:=hpre;refine⟨(s,46),rfl,rfl,hpre,aj.2 ⟨fun h=>?_,fun h=>⟨⟨0,⟨by simp,fun j h hj=>by omega⟩,⟨rfl,rfl,trivial⟩,trivial,trivial⟩,?_⟩⟩⟩
 . refine⟨?_,trivial⟩;unfold fi;have:¬(aO s 46).length=4:=by
     simp only[AI,Db,ne_eq,Aa]at h;omega
   simp[this]
 have h4:(aO s 46).length=4:=by
   simp only[D9,BJ,Aa]at h;omega
 rintro x ⟨hx,hall⟩;refine aj.2 ⟨fun hlt=>?_,fun hge=>⟨?_,trivial⟩⟩
 . have hx':x<(aO s 46).length:=by rw[cm,Ae]at hlt;omega
   have hpl:=uO hx';have hget:(aO s 46)[Int.toNat (x:Int)]? =some (aO s 46)[x]:=dz hx';have next:=qm hall hx';generalize hpe:(aO s 46)[x]=p at*
   have fail:gf p=false->false=fi s:=fun h=>(FR hx' (by rw[hpe];exact h)).symm
   refine ar.2 ⟨p,hget,aj.2 ⟨fun h1=>⟨fail ?_,trivial⟩,fun h1=>ar.2 ⟨p,hget,aj.2 ⟨fun h2=>⟨fail ?_,trivial⟩,fun h2=>ar.2 ⟨p,hget,ar.2 ⟨p,hget,p,rfl,by omega,aj.2 ⟨fun h3=>⟨fail ?_,trivial⟩,fun h3=>ar.2 ⟨p,hget,p,rfl,by omega,aj.2 ⟨fun h5=>⟨fail ?_,trivial⟩,fun h5=>ar.2 ⟨p,hget,(aX p).1.toNat,?_,?_,aj.2 ⟨fun h6=>⟨fail ?_,trivial⟩,fun h6=>ah.2 ⟨cM x (by omega),x+1,⟨by omega,next ?_⟩,?_,⟨rfl,by simp[az],trivial⟩,trivial,trivial⟩⟩⟩⟩⟩⟩⟩⟩⟩⟩⟩⟩
   . rw[cm,Ae,Aa]at h1;have:p=[]:=AG (by omega);subst this;rfl
   all_goals (have hp1:1<=p.length:=by rw[cm,Ai,Aa]at h1;omega)
   . rw[cm,Ae,Aa]at h2;rw[AN];intro hp;unfold gf at hp;simp only[Ab,Ae,AI]at hp;have:=(xJ hp1 hp.1.1.2 hp.1.2).1 hp.2;omega
   . have h3':¬cL p=p.length:=by
      simp only[AI,Db,ne_eq,Aa]at h3;omega
     unfold gf;simp[h3']
   all_goals (have hd:cL p=p.length:=by simp only[D9,BJ,Aa]at h3;omega)
   all_goals (have hnn:=Of hp1 hd)
   . rw[cm,Ae]at h5;unfold gf;have:¬(aX p).1<=255:=by omega
     simp[this]
   . simp only[az];omega
   . omega
   all_goals (have h255:(aX p).1<=255:=by rw[cm,Ai]at h5;omega)
   . rw[AN];intro hp;unfold gf at hp;simp only[Ab,Ae,AI]at hp;have:=((xJ hp1 hd h255).1 hp.2).2;rw[this]at h6;simp at h6
   . have hl3:p.length<=3:=by rw[cm,Ai,Aa]at h2;omega
     have ht:iN (aX p).1.toNat=p:=by simpa using h6
     have:=(xJ hp1 hd h255).2 ⟨hl3,ht⟩;unfold gf;rw[this];have hp0:p≠[]:=AZ.1 hp1;simp[hp0,hd,h255]
   . show 4 - (x+1)<4 - x
     omega
 . unfold fi;rw[cm,Ai]at hge;rw[ql hall (by rw[h4,Aa];omega)];simp[h4])
theorem IB {b:UInt8} {P Q:Prop} (hp:cJ b=true->P) (hq:cJ b=false->Q):
  br (bG 48 (Int.ofNat (UInt8.toNat b))) (br (bG (Int.ofNat (UInt8.toNat b)) 57) P (br (bG 97 (Int.ofNat (UInt8.toNat b))) (br (bG (Int.ofNat (UInt8.toNat b)) 102) P (br (Int.ofNat (UInt8.toNat b)==58) P (br (!Int.ofNat (UInt8.toNat b)==46) Q P))) (br (Int.ofNat (UInt8.toNat b)==58) P (br (!Int.ofNat (UInt8.toNat b)==46) Q P))))
   (br (bG 97 (Int.ofNat (UInt8.toNat b))) (br (bG (Int.ofNat (UInt8.toNat b)) 102) P (br (Int.ofNat (UInt8.toNat b)==58) P (br (!Int.ofNat (UInt8.toNat b)==46) Q P))) (br (Int.ofNat (UInt8.toNat b)==58) P (br (!Int.ofNat (UInt8.toNat b)==46) Q P))):=by
 rw[IE];have e:cJ b=((bG 48 (nB b)&&bG (nB b) 57)||(bG 97 (nB b)&&bG (nB b) 102)||(nB b==58)||(nB b==46)):=by
  simp only[fg];rfl
 rw[e]at hp hq;generalize bG 48 (nB b)=a1 at*
 generalize bG (nB b) 57=a2 at*
 generalize bG 97 (nB b)=a3 at*
 generalize bG (nB b) 102=a4 at*
 generalize (nB b==58)=a5 at*
 generalize (nB b==46)=a6 at*
 cases a1<;>cases a2<;>cases a3<;>cases a4<;>cases a5<;>cases a6<;>simp_all[br]
theorem um {s:Bs} (h4:4<=s.length):s.head? =some (s[0]'(by omega))/\s.getLast? =some (s[s.length - 1]'(by omega)):=by
 rw[Dm,Eb];exact⟨by simp[show 0<s.length by omega],by simp[show 0<s.length by omega]⟩
theorem H8 {s:Bs} {j:Nat} (h:j<((s.drop 1).take (s.length - 2)).length):((s.drop 1).take (s.length - 2))[j]=s[j+1]'(by simp at h;omega):=by
 rw[Ee,B0];congr 1
 omega
theorem Co {s:Bs} (h:s.length<4):eT s=false:=by
 unfold eT;have:decide (4<=s.length)=false:=by simp;omega
 simp[this]
theorem FW {s:Bs} (h:47<s.length):eT s=false:=by
 unfold eT;have:decide (s.length<=47)=false:=by simp;omega
 simp[this]
theorem gr {b:UInt8} {n:UInt8}:(Int.ofNat b.toNat==nB n)=true↔b=n:=by
 constructor
 . intro h;exact sI (by simpa [nB]using h)
 . intro h;subst h;simp[nB]
theorem Cm {s:Bs} (h4:4<=s.length) (h:(!Int.ofNat (UInt8.toNat (s[0]'(by omega)))==91)=true):eT s=false:=by
 have:s[0]'(by omega)≠91:=by
  intro e;rw[AI]at h;rw[show(91:Int)=nB 91 from rfl,gr.2 e]at h
  cases h
 unfold eT;rw[(um h4).1];simp[this]
theorem CL {s:Bs} (h4:4<=s.length) (h:(!Int.ofNat (UInt8.toNat (s[s.length - 1]'(by omega)))==93)=true):eT s=false:=by
 have:s[s.length - 1]'(by omega)≠93:=by
  intro e;rw[AI]at h;rw[show(93:Int)=nB 93 from rfl,gr.2 e]at h
  cases h
 unfold eT;rw[(um h4).2];simp[this]
theorem FX {s:Bs} (h4:4<=s.length) (h47:s.length<=47) (h1:(!Int.ofNat (UInt8.toNat (s[0]'(by omega)))==91)=false) (h2:(!Int.ofNat (UInt8.toNat (s[s.length - 1]'(by omega)))==93)=false):eT s=((s.drop 1).take (s.length - 2)).all cJ:=by
 have e1:s[0]'(by omega)=91:=gr.1 (by simpa [nB]using h1);have e2:s[s.length - 1]'(by omega)=93:=gr.1 (by simpa [nB]using h2);unfold eT;rw[(um h4).1,(um h4).2,e1,e2];simp[h4,h47]
theorem P2:CO lL (fE eT):=bZ (cfg:=fun y=>bQ kO (cS lL 4 (gy y))) bH (fun _=>rfl) (fun _=>qo) (n:=400) (by
 rw[Ph];intro s hpre;have hpre:s.length<=100000:=hpre;refine aj.2 ⟨fun h=>⟨(Co (by rw[cm,Ae,Aa]at h;omega)).symm,trivial⟩,fun h=>aj.2 ⟨fun h2=>⟨(FW (by rw[cm,Ae,Aa]at h2;omega)).symm,trivial⟩,fun h2=>?_⟩⟩;have h4:4<=s.length:=by rw[cm,Ai,Aa]at h;omega
 have h47:s.length<=47:=by rw[cm,Ai,Aa]at h2;omega
 have hi:Int.toNat (Int.ofNat s.length - 1)=s.length - 1:=by rw[Aa];omega
 have hr:bC Go.IntKind.i64 (Int.ofNat s.length - 1)=true:=by rw[gJ,Aa];omega
 have hn:nn (Int.ofNat s.length - 1)=true:=by rw[mB,Ae,Aa];omega
 rw[hi];refine ar.2 ⟨s[0]'(by omega),by simp[show 0<s.length by omega],aj.2 ⟨fun h5=>⟨(Cm h4 h5).symm,trivial⟩,fun h5=>ah.2 ⟨hr,ah.2 ⟨hn,ar.2 ⟨s[s.length - 1]'(by omega),by simp[show 0<s.length by omega],aj.2 ⟨fun h6=>⟨(CL h4 h6).symm,trivial⟩,fun h6=>ah.2 ⟨hr,ah.2 ⟨hn,ah.2 ⟨by simp;omega,⟨0,⟨by simp,fun j h hj=>by omega⟩,⟨?_,?_,rfl,trivial⟩,trivial,trivial⟩,?_⟩⟩⟩⟩⟩⟩⟩⟩⟩
 . rw[show s.length - 1 - Int.toNat 1=s.length - 2 by simp;omega];rfl
 . rw[show s.length - 1 - Int.toNat 1=s.length - 2 by simp;omega];rfl
 have hb:=FX h4 h47 h5 h6;rintro x ⟨hx,hall⟩;refine aj.2 ⟨fun hlt=>ar.2 ⟨_,dz (cY hlt),IB (fun hh=>ah.2 ⟨cM x (by have:=cY hlt;simp at this;omega),x+1,⟨cY hlt,qm hall (cY hlt) hh⟩,?_,⟨rfl,rfl,by simp[az],trivial⟩,trivial,trivial⟩) (fun hh=>⟨?_,trivial⟩)⟩,fun hge=>⟨?_,trivial⟩⟩
 . have:=cY hlt;show((s.drop 1).take (s.length - 2)).length - (x+1)<((s.drop 1).take (s.length - 2)).length - x
   omega
 . rw[hb,rV (cY hlt) hh]
 . rw[hb,ql hall (kC hge)])
theorem OR:CO lH (fE eT):=bZ (cfg:=fun y=>bQ di (cS lH 4 (gu y))) bH (fun _=>rfl) (fun _=>kg) (n:=400) (by
 rw[N1];intro s hpre;have hpre:s.length<=100000:=hpre;refine aj.2 ⟨fun h=>⟨(Co (by rw[cm,Ae,Aa]at h;omega)).symm,trivial⟩,fun h=>aj.2 ⟨fun h2=>⟨(FW (by rw[cm,Ae,Aa]at h2;omega)).symm,trivial⟩,fun h2=>?_⟩⟩;have h4:4<=s.length:=by rw[cm,Ai,Aa]at h;omega
 have h47:s.length<=47:=by rw[cm,Ai,Aa]at h2;omega
 have hi:Int.toNat (Int.ofNat s.length - 1)=s.length - 1:=by rw[Aa];omega
 have hr:bC Go.IntKind.i64 (Int.ofNat s.length - 1)=true:=by rw[gJ,Aa];omega
 have hn:nn (Int.ofNat s.length - 1)=true:=by rw[mB,Ae,Aa];omega
 rw[hi];refine ar.2 ⟨s[0]'(by omega),by simp[show 0<s.length by omega],aj.2 ⟨fun h5=>⟨(Cm h4 h5).symm,trivial⟩,fun h5=>ah.2 ⟨hr,ah.2 ⟨hn,ar.2 ⟨s[s.length - 1]'(by omega),by simp[show 0<s.length by omega],aj.2 ⟨fun h6=>⟨(CL h4 h6).symm,trivial⟩,fun h6=>⟨⟨1,⟨by omega,by omega,fun j h h1 hj=>by omega⟩,⟨rfl,rfl,trivial⟩,trivial,trivial⟩,?_⟩⟩⟩⟩⟩⟩⟩;have hb:=FX h4 h47 h5 h6;rintro x ⟨hx1,hx,hall⟩;refine ah.2 ⟨hr,aj.2 ⟨fun hlt=>?_,fun hge=>⟨?_,trivial⟩⟩⟩
 . have hlt':x+1<s.length:=by rw[cm,Ae,Aa]at hlt;omega
   refine ar.2 ⟨s[x],dz (by omega),IB (fun hh=>ah.2 ⟨cM x (by omega),x+1,⟨by omega,by omega,fun j hj h1 hjx=>?_⟩,?_,⟨rfl,by simp[az],trivial⟩,trivial,trivial⟩) (fun hh=>⟨?_,trivial⟩)⟩
   . by_cases e:j=x
     . subst e;exact hh
     . exact hall j hj h1 (by omega)
   . show s.length - (x+1)<s.length - x
     omega
   . have hl:x - 1<((s.drop 1).take (s.length - 2)).length:=by simp;omega
     rw[hb,rV hl (by rw[H8 hl];simp only[show x - 1+1=x by omega];exact hh)]
 . rw[cm,Ai,Aa]at hge;rw[hb];symm;rw[AE];intro b hbm;obtain⟨j,hj,rfl⟩:=BB hbm;rw[H8 hj];simp at hj;exact hall (j+1) (by omega) (by omega) (by omega))
theorem uB:∀g C,nV g=some C->CO g C:=bX Qb (bX OW (bX Rm (bX Qa (bX P2 (bX OR qo)))))
theorem Rc:CO py (fE gA):=bZ (cfg:=fun y=>bQ nV (dM y)) bH (fun _=>rfl) (fun _=>uB) (n:=400) (by
 rw[Q5];intro s hpre;refine⟨s,rfl,hpre,aj.2 ⟨fun h=>⟨by unfold gA;rw[h];rfl,trivial⟩,fun h=>⟨s,rfl,hpre,by unfold gA;rw[h];rfl,trivial⟩⟩⟩)
theorem P0:CO pw (fE gA):=bZ (cfg:=fun y=>bQ nV (dM y)) bH (fun _=>rfl) (fun _=>uB) (n:=400) (by
 rw[Pg];intro s hpre;refine⟨s,rfl,hpre,aj.2 ⟨fun h=>⟨by unfold gA;rw[h];rfl,trivial⟩,fun h=>⟨s,rfl,hpre,by unfold gA;rw[h];rfl,trivial⟩⟩⟩)
theorem GP {s:Bs} (h:256<s.length):fp s=false:=by
 unfold fp;have:decide (s.length<=256)=false:=by simp;omega
 simp[this]
theorem F8 {s:Bs} (h:fi s=true):fp s=false:=by
 unfold fp;simp[h]
theorem LI {s:Bs} (h:eT s=true):fp s=false:=by
 unfold eT at h;simp only[Ab,BJ]at h;have h1:=h.1.1.2
 cases s with
 |nil=>simp at h1
 | cons b s=>
  simp only[ER,AL]at h1;subst h1;have:(aO (91::s) 46).all eI=false:=by
   have hs:aO (91::s) 46=(match aO s 46 with|h::t=>(91::h)::t|[]=>[[91]]):=by
    rw[aO];rw[if_neg (by decide)]
    try (cases aO s 46<;>rfl)
   rw[hs];have hl:∀h:Bs,eI (91::h)=false:=fun h=>Cg (s:=91::h) (x:=0) (by simp) (by simp[gB,nB])
   cases aO s 46 with
   |nil=>simp[hl]
   |cons h t=>simp[hl]
  unfold fp;rw[this];simp
theorem F7 {s:Bs} {x:Nat} (h:x<(aO s 46).length) (hp:eI (aO s 46)[x]=false):fp s=false:=by
 unfold fp;rw[rV h hp];simp
theorem F6 {s:Bs} (h1:s.length<=256) (h2:fi s=false):fp s=(aO s 46).all eI:=by
 unfold fp;simp[h1,h2]
theorem Pr:CO lV (fE fp):=bZ (cfg:=fun y=>bQ nV (cS lV 5 (vu y))) bH (fun _=>rfl) (fun _=>uB) (n:=400) (by
 rw[Qo];intro s hpre;have hpre:s.length<=100000:=hpre;have hsl:=xp s 46;refine aj.2 ⟨fun h=>⟨(GP (by rw[cm,Ae,Aa]at h;omega)).symm,trivial⟩,fun h=>⟨s,rfl,hpre,aj.2 ⟨fun h2=>⟨(F8 h2).symm,trivial⟩,fun h2=>⟨(s,46),rfl,rfl,hpre,⟨0,⟨by simp,fun j h hj=>by omega⟩,⟨rfl,rfl,trivial⟩,trivial,trivial⟩,?_⟩⟩⟩⟩;have h256:s.length<=256:=by rw[cm,Ai,Aa]at h;omega
 rintro x ⟨hx,hall⟩;refine aj.2 ⟨fun hlt=>ar.2 ⟨_,dz (cY hlt),_,rfl,?_,aj.2 ⟨fun hh=>⟨(F7 (cY hlt) (by simpa using hh)).symm,trivial⟩,fun hh=>ah.2 ⟨cM x (by have:=cY hlt;omega),x+1,⟨cY hlt,qm hall (cY hlt) (by simpa using hh)⟩,?_,⟨rfl,by simp[az],trivial⟩,trivial,trivial⟩⟩⟩,fun hge=>⟨?_,trivial⟩⟩
 . have:=uO (cY hlt);omega
 . have:=cY hlt;show(aO s 46).length - (x+1)<(aO s 46).length - x
   omega
 . rw[F6 h256 h2,ql hall (kC hge)])
theorem Gu:∀g C,wo g=some C->CO g C:=bX Rc (bX P0 (bX Pr uB))
theorem Rv:CO l3 (fE fp):=bZ (cfg:=fun y=>bQ wo (cS l3 4 (vW y))) bH (fun _=>rfl) (fun _=>Gu) (n:=400) (by
 rw[QH];intro s hpre;have hpre:s.length<=100000:=hpre;have hsl:=xp s 46;refine aj.2 ⟨fun h=>⟨(GP (by rw[cm,Ae,Aa]at h;omega)).symm,trivial⟩,fun h=>⟨s,rfl,hpre,aj.2 ⟨fun h2=>⟨?_,trivial⟩,fun h2=>⟨(s,46),rfl,rfl,hpre,⟨0,⟨by simp,fun j h hj=>by omega⟩,⟨rfl,rfl,rfl,trivial⟩,trivial,trivial⟩,?_⟩⟩⟩⟩
 . unfold gA at h2;rw[BL]at h2;rcases h2 with h2|h2
   . exact(F8 h2).symm
   . exact(LI h2).symm
 have h256:s.length<=256:=by rw[cm,Ai,Aa]at h;omega
 have h3:fi s=false:=by unfold gA at h2;rw[Bool.or_eq_false_iff]at h2;exact h2.1
 rintro x ⟨hx,hall⟩;refine aj.2 ⟨fun hlt=>ar.2 ⟨_,dz (cY hlt),_,rfl,?_,aj.2 ⟨fun hh=>⟨(F7 (cY hlt) (by simpa using hh)).symm,trivial⟩,fun hh=>ah.2 ⟨cM x (by have:=cY hlt;omega),x+1,⟨cY hlt,qm hall (cY hlt) (by simpa using hh)⟩,?_,⟨rfl,rfl,by simp[az],trivial⟩,trivial,trivial⟩⟩⟩,fun hge=>⟨?_,trivial⟩⟩
 . have:=uO (cY hlt);omega
 . have:=cY hlt;show(aO s 46).length - (x+1)<(aO s 46).length - x
   omega
 . rw[F6 h256 h3,ql hall (kC hge)])
theorem NW:∀g C,I7 g=some C->CO g C:=bX Rv Gu
theorem NX:∀g C,I8 g=some C->CO g C:=NW
theorem NY:∀g C,I9 g=some C->CO g C:=NX
theorem Nu:∀g C,Ja g=some C->CO g C:=NY
end
end Go.Proofs
namespace Go.Proofs
open Go Go.Am Go.RowKit Go.Sy Go.Lib
structure aC where
 name:Bs
 domain:Bs
 path:Bs
deriving DecidableEq,Inhabited
structure eF where
 value:Bs
 bI:Bool
 cK:Bool
 bJ:Bool
 persistent:Bool
 cA:Int
 bE:Int
 access:Int
deriving DecidableEq,Inhabited
structure aH where
 key:aC
 ae:eF
deriving DecidableEq,Inhabited
structure jO where
 mL:Int
 domain:Int
 total:Int
 rules:List Bs
def aC.enc (x:aC):List SV:=[.str x.name, .str x.domain, .str x.path]
def eF.enc (x:eF):List SV:=[.str x.value, .bool x.bI, .bool x.cK, .bool x.bJ, .bool x.persistent, .int .i64 x.cA, .int .i64 x.bE, .int .i64 x.access]
def aH.enc (x:aH):List SV:=[.str x.key.name, .str x.key.domain, .str x.key.path, .str x.ae.value, .bool x.ae.bI, .bool x.ae.cK, .bool x.ae.bJ, .bool x.ae.persistent, .int .i64 x.ae.cA, .int .i64 x.ae.bE, .int .i64 x.ae.access]
def jO.enc (x:jO):List SV:=[.int .i64 x.mL, .int .i64 x.domain, .int .i64 x.total, .aJ Bs x.rules eR]
abbrev lt (a b:Bs):Bool:=Op.bytesLess a b
theorem lt_irrefl:∀a,lt a a=false
 |[]=>rfl
 |a::l=>by simp[lt,Op.bytesLess];exact lt_irrefl l
theorem lt_trans:∀a b c,lt a b=true->lt b c=true->lt a c=true:=by
 intro a;induction a with
 |nil=>intro b c h1 h2;cases c with
  |nil=>cases b<;>simp[lt,Op.bytesLess]at h1 h2
  |cons=>rfl
 | cons x a ih=>
  intro b c h1 h2
  cases b with
  |nil=>simp[lt,Op.bytesLess]at h1
  | cons y b=>cases c with
   |nil=>simp[lt,Op.bytesLess]at h2
   |cons z c=>
    simp only[lt,Op.bytesLess,BL,Ae,Ab,BJ]at*;rcases h1 with h1|⟨rfl,h1⟩<;>rcases h2 with h2|⟨rfl,h2⟩
    . exact .inl (UInt8.lt_trans h1 h2)
    . exact .inl h1
    . exact .inl h2
    . exact .inr ⟨rfl,ih b c h1 h2⟩
theorem yV:∀a b,lt a b=true\/a=b\/lt b a=true:=by
 intro a;induction a with
 |nil=>intro b;cases b<;>simp[lt,Op.bytesLess]
 | cons x a ih=>
  intro b
  cases b with
  |nil=>simp[lt,Op.bytesLess]
  |cons y b=>
   simp only[lt,Op.bytesLess,BL,Ae,Ab,BJ,BG];rcases Nat.lt_trichotomy x.toNat y.toNat with h|h|h
   . exact .inl (.inl (Fh.2 h))
   . have h:x=y:=El.1 h;subst h;rcases ih b with h|h|h
     . exact .inl (.inr ⟨rfl,h⟩)
     . exact .inr (.inl ⟨rfl,h⟩)
     . exact .inr (.inr (.inr ⟨rfl,h⟩))
   . exact .inr (.inr (.inl (Fh.2 h)))
def dQ (a b:Bs):Int:=if lt a b then -1 else if a=b then 0 else 1
theorem J6:∀(a b:Bs),compareBytes a b=dQ a b:=by
 intro a;induction a with
 |nil=>intro b;cases b<;>simp[compareBytes,dQ,lt,Op.bytesLess]
 | cons x a ih=>
  intro b
  cases b with
  |nil=>simp[compareBytes,dQ,lt,Op.bytesLess]
  |cons y b=>
   simp only[compareBytes,ih b,dQ,lt,Op.bytesLess,BL,Ae,Ab,BJ,BG];by_cases h1:x<y
   . simp[h1]
   . by_cases h2:y<x
     . have:x≠y:=by rintro rfl;exact h1 h2
       simp[h1,h2,this]
     . have:x=y:=El.1 (by have:=UInt8.not_lt.1 h1;have:=UInt8.not_lt.1 h2;simp[UInt8.le_iff_toNat_le]at*;omega);subst this;simp
theorem MJ (a b:Bs):Extern.BytealgCompare.cmp ⟨a.toArray⟩ ⟨b.toArray⟩=dQ a b:=by
 rw[cmp_eq,J6]
theorem ud (a b:Bs):dQ a b=0↔a=b:=by
 unfold dQ;by_cases h:a=b
 . subst h;simp[lt_irrefl]
 . by_cases h1:lt a b=true<;>simp[h,h1]
theorem xW (a b:Bs):dQ a b<0↔lt a b=true:=by
 unfold dQ;by_cases h1:lt a b=true
 . simp[h1]
 . by_cases h:a=b<;>simp[h,h1]<;>simp_all[lt_irrefl]
def fc (a b:Int):Int:=if a<b then -1 else if b<a then 1 else 0
theorem FE (a b:Int):fc a b=0↔a=b:=by
 unfold fc;by_cases h:a<b
 . rw[if_pos h];omega
 . rw[if_neg h];by_cases h2:b<a
   . rw[if_pos h2];omega
   . rw[if_neg h2];omega
theorem Gl (a b:Int):fc a b<0↔a<b:=by
 unfold fc;by_cases h:a<b
 . rw[if_pos h];omega
 . rw[if_neg h];by_cases h2:b<a
   . rw[if_pos h2];omega
   . rw[if_neg h2];omega
def nf (a b:aC):Int:=let n:=dQ a.name b.name;if n≠0 then n else let d:=dQ a.domain b.domain;if d≠0 then d else dQ a.path b.path
def gG (a b:aC):Bool:=decide (nf a b<0)
theorem uf (a b:aC):gG a b=if a.name≠b.name then lt a.name b.name else if a.domain≠b.domain then lt a.domain b.domain else lt a.path b.path:=by
 rw[A4];unfold gG nf;by_cases h1:a.name=b.name
 . have e1:=(ud a.name b.name).2 h1;by_cases h2:a.domain=b.domain
   . have e2:=(ud a.domain b.domain).2 h2;have:=xW a.path b.path;simp_all
   . have e2:=fun h=>h2 ((ud a.domain b.domain).1 h)
     have:=xW a.domain b.domain;simp_all
 . have e1:=fun h=>h1 ((ud a.name b.name).1 h)
   have:=xW a.name b.name;simp_all
theorem tK (a:aC):gG a a=false:=by simp[uf,lt_irrefl]
theorem qd (a b c:aC) (h1:gG a b=true) (h2:gG b c=true):gG a c=true:=by
 rw[uf]at*;by_cases n1:a.name=b.name
 . by_cases n2:b.name=c.name
   . have n3:a.name=c.name:=n1.trans n2;simp only[n1,n2,n3,ne_eq,Dt,Aw]at h1 h2⊢;by_cases d1:a.domain=b.domain
     . by_cases d2:b.domain=c.domain
       . have d3:a.domain=c.domain:=d1.trans d2;simp only[d1,d2,d3,ne_eq,Dt,Aw]at h1 h2⊢;exact lt_trans _ _ _ h1 h2
       . simp only[d1,d2,ne_eq,Dt,Bf,Aw,if_true]at h1 h2⊢;exact h2
     . simp only[d1,ne_eq,Bf,if_true]at h1;by_cases d2:b.domain=c.domain
       . rw[<-d2];simp only[d1,ne_eq,Bf,if_true];exact h1
       . simp only[d2,ne_eq,Bf,if_true]at h2;have h3:=lt_trans _ _ _ h1 h2;have d3:a.domain≠c.domain:=fun e=>by rw[e,lt_irrefl]at h3;cases h3
         simp only[d3,ne_eq,Bf,if_true];exact h3
   . simp only[n1,n2,ne_eq,Bf,if_true]at h2⊢;exact h2
 . simp only[n1,ne_eq,Bf,if_true]at h1;by_cases n2:b.name=c.name
   . rw[<-n2];simp only[n1,ne_eq,Bf,if_true];exact h1
   . simp only[n2,ne_eq,Bf,if_true]at h2;have h3:=lt_trans _ _ _ h1 h2;have n3:a.name≠c.name:=fun e=>by rw[e,lt_irrefl]at h3;cases h3
     simp only[n3,ne_eq,Bf,if_true];exact h3
theorem tR (a b:aC):gG a b=true\/a=b\/gG b a=true:=by
 simp only[uf];by_cases h1:a.name=b.name
 . by_cases h2:a.domain=b.domain
   . simp only[h1,h2,ne_eq,Dt,Aw];rcases yV a.path b.path with h|h|h
     . exact .inl h
     . exact .inr (.inl (by cases a;cases b;simp_all))
     . exact .inr (.inr h)
   . have h2':=Ne.symm h2;simp only[h1,h2,h2',ne_eq,Dt,Bf,Aw,if_true];rcases yV a.domain b.domain with h|h|h
     . exact .inl h
     . exact absurd h h2
     . exact .inr (.inr h)
 . have h1':=Ne.symm h1;simp only[h1,h1',ne_eq,Bf,if_true];rcases yV a.name b.name with h|h|h
   . exact .inl h
   . exact absurd h h1
   . exact .inr (.inr h)
end Go.Proofs
namespace Go.Proofs
open Go Go.Am Go.RowKit Go.Sy
section
variable [Inhabited aF]
theorem Tryz.rr:Tryz.tab.fns.get wA=some Tryz.f208:=by kernel_rfl
theorem Sg (a b:List UInt8):run Tryz.tab 200 {fr:=af.enter Tryz.f208 wA (Tryz.f208.body.getD .skip) [.str a, .str b] .normal,cs:=[],h:=eV}= .ok [(.int .i64 (Extern.BytealgCompare.cmp ⟨a.toArray⟩ ⟨b.toArray⟩),eV)]:=by kernel_rfl
noncomputable def nX:aP:={Y:=Bs×Bs,pre:=fun _=>True,args:=fun y=>[.str y.1, .str y.2],res:=fun y=> .int .i64 (dQ y.1 y.2)}
theorem Rf:CO wA nX:=by
 refine cf.shut bH fun fn body hfn hb y _ avs Fz hav=>?_
 rw[Tryz.rr]at hfn
 cases hfn;obtain⟨a,b⟩:=y;have hl:avs=[.str a, .str b]:=by
   obtain⟨h1,h2⟩:=hav
   cases avs with
   |nil=>simp[nX]at h1
   | cons u avs=>cases avs with
    |nil=>simp[nX]at h1
    | cons w avs=>cases avs with
     |cons=>simp[nX]at h1
     |nil=>
      have e1:=h2 0 _ u rfl rfl;have e2:=h2 1 _ w rfl rfl;simp only at e1 e2
      cases e1
      cases e2;rfl
 subst hl;refine⟨fun _ _=>rfl,fun v _=>v= .int .i64 (dQ a b),?_,?_⟩
 . have ho:=Sg a b;rw[hb]at ho;refine(eC.run bH ho).mono fun v h' hm=>?_
   simp only[Aj,BX,DT,BR]at hm;rw[hm.1,MJ]
 . rintro v h' rfl;exact⟨fun _ _=>rfl, .int _ _⟩
end
section
variable [Inhabited aF]
def vq:aC:=⟨[],[],[]⟩
def dJ:aH:=⟨vq,⟨[],false,false,false,false,0,0,0⟩⟩
noncomputable def TF:TypeId->Option View:=fun t=>bif Nat.beq t Ty.string then some ⟨Bs,eR⟩else bif Nat.beq t zt then some ⟨aH,aH.enc⟩else none
noncomputable def dH (gm:FuncId->Option aP) (kW:FuncId->Nat->Option aK):iq:={tab:=pc,view:=TF,gm,kW}
def lA (l:List aH):SV:= .aJ aH l aH.enc
def sD (l:List aH):SO:= .arr aH l aH.enc zt
def sr (f r:Nat) (A:aK) (a:FuncId->Nat->Option aK):FuncId->Nat->Option aK:=fun g s=>bif Nat.beq g f&&Nat.beq s r then some A else a g s
def y5:aP:={Y:=Int×Int,pre:=fun _=>True,args:=fun y=>[i64 y.1,i64 y.2],res:=fun y=>i64 (fc y.1 y.2)}
def y6:aP:={Y:=aC×aC,pre:=fun _=>True,args:=fun y=>[.agg y.1.enc, .agg y.2.enc],res:=fun y=>i64 (nf y.1 y.2)}
def qS:aP:={Y:=aC×aC,pre:=fun _=>True,args:=fun y=>[.agg y.1.enc, .agg y.2.enc],res:=fun y=> .bool (gG y.1 y.2)}
def zF (l:List aH):Prop:=l.length<=10000
def yQ:aP:={Y:=List aH×List aH,pre:=fun y=>zF y.1/\zF y.2,args:=fun y=>[lA y.1,lA y.2],res:=fun y=> .bool (decide (y.1=y.2))}
def vv (y:List aH×List aH):aK:={α:=Nat,ok:=fun i=>i<=y.1.length/\y.1.length=y.2.length/\y.1.take i=y.2.take i,μ:=fun i=>y.1.length - i,aU:=[],aR:=fun i=>[(0,lA y.1),(1,lA y.2),(5,i64 i)],bD:=fun _=>[]}
noncomputable def vM (f:FuncId):Option aP:=bif Nat.beq f wA then some nX else Ja f
noncomputable def vN (f:FuncId):Option aP:=bif Nat.beq f ph then some y5 else bif Nat.beq f pj then some nX else vM f
noncomputable def vO (f:FuncId):Option aP:=bif Nat.beq f pM then some y6 else vN f
noncomputable def Jb (f:FuncId):Option aP:=bif Nat.beq f pL then some qS else bif Nat.beq f pO then some qS else vO f
noncomputable def Jc (f:FuncId):Option aP:=Jb f
noncomputable def Jd (f:FuncId):Option aP:=bif Nat.beq f lX then some yQ else Jc f
noncomputable def Je (f:FuncId):Option aP:=Jd f
end
section
variable [Inhabited aF]
theorem Q6:(dh (fun(y:aP.Y y5)=>dH di (dM y)) 400 ph)=(∀(y:Int×Int),
 True->
 br (!y.1==y.1)
 (br (!y.2==y.2) (az 0 (fc y.1 y.2)/\True) (az (-1) (fc y.1 y.2)/\True))
 (br (!y.2==y.2) (az 1 (fc y.1 y.2)/\True)
 (br (bV y.1 y.2) (az (-1) (fc y.1 y.2)/\True)
 (br (bV y.2 y.1) (az 1 (fc y.1 y.2)/\True)
 (az 0 (fc y.1 y.2)/\True))))):=by kernel_rfl
theorem Q7:(dh (fun(y:aP.Y nX)=>dH vM (dM y)) 400 pj)=(∀(y:Bs×Bs),
 True->
 ∃(y_1:Bs×Bs),
 y.1=y_1.1/\y.2=y_1.2/\True/\az (dQ y_1.1 y_1.2) (dQ y.1 y.2)/\True):=by kernel_rfl
theorem Rb:(dh (fun(y:aP.Y y6)=>dH vN (dM y)) 600 pM)=(∀(y:aC×aC),
 True->
 ∃(y_1:Bs×Bs),
 y.1.name=y_1.1/\
 y.2.name=y_1.2/\
 True/\
 ∃(y_2:Bs×Bs),
 y.1.domain=y_2.1/\
 y.2.domain=y_2.2/\
 True/\
 ∃(y_3:Bs×Bs),
 y.1.path=y_3.1/\
 y.2.path=y_3.2/\
 True/\
 br (!dQ y_1.1 y_1.2==0)
 (az (dQ y_1.1 y_1.2) (nf y.1 y.2)/\True)
 (br (!dQ y_2.1 y_2.2==0)
 (az (dQ y_2.1 y_2.2) (nf y.1 y.2)/\True)
 (br (!dQ y_3.1 y_3.2==0)
 (az (dQ y_3.1 y_3.2) (nf y.1 y.2)/\True)
 (az 0 (nf y.1 y.2)/\True)))):=by kernel_rfl
theorem QG:(dh (fun(y:aP.Y qS)=>dH vO (dM y)) 400 pL)=(∀(y:aC×aC),
 True->
 ∃(y_1:aC×aC),
 y.1.name=y_1.1.name/\
 y.1.domain=y_1.1.domain/\
 y.1.path=y_1.1.path/\
 y.2.name=y_1.2.name/\
 y.2.domain=y_1.2.domain/\
 y.2.path=y_1.2.path/\
 True/\bV (nf y_1.1 y_1.2) 0=gG y.1 y.2/\True):=by kernel_rfl
theorem Pn:(dh (fun(y:aP.Y qS)=>dH di (dM y)) 400 pO)=(∀(y:aC×aC),
 True->
 br (!y.1.name==y.2.name)
 (Go.Op.bytesLess y.1.name y.2.name=gG y.1 y.2/\True)
 (br (!y.1.domain==y.2.domain)
 (Go.Op.bytesLess y.1.domain y.2.domain=gG y.1 y.2/\True)
 (Go.Op.bytesLess y.1.path y.2.path=gG y.1 y.2/\True))):=by kernel_rfl
theorem Qp:(dh (fun(y:aP.Y yQ)=>dH di (cS lX 4 (vv y))) 400 lX)=(∀(y:List aH×List aH),
 y.1.length<=10000/\y.2.length<=10000->
 br (!Int.ofNat y.1.length==Int.ofNat y.2.length) (false=Decidable.decide (y.1=y.2)/\True)
 ((∃(x:Nat),
 (x<=y.1.length/\y.1.length=y.2.length/\List.take x y.1=List.take x y.2)/\
 (SV.aJ aH y.1 aH.enc=SV.aJ aH y.1 aH.enc/\
 SV.aJ aH y.2 aH.enc=SV.aJ aH y.2 aH.enc/\az 0 ↑x/\True)/\
 True/\True)/\
 ∀(x:Nat),
 x<=y.1.length/\y.1.length=y.2.length/\List.take x y.1=List.take x y.2->
 br (bV (↑x) (Int.ofNat y.1.length))
 (so y.1[Int.toNat ↑x]? fun(val:aH)=>
 so y.2[Int.toNat ↑x]? fun(val_1:aH)=>
 br
 (!(val.key.name==val_1.key.name&&
 (val.key.domain==val_1.key.domain&&
 (val.key.path==val_1.key.path&&true))&&
 (val.ae.value==val_1.ae.value&&
 (val.ae.bI==val_1.ae.bI&&
 (val.ae.cK==val_1.ae.cK&&
 (val.ae.bJ==val_1.ae.bJ&&
 (val.ae.persistent==val_1.ae.persistent&&
 (val.ae.cA==val_1.ae.cA&&
 (val.ae.bE==val_1.ae.bE&&
 (val.ae.access==val_1.ae.access&&true)))))))&&
 true)))
 (false=Decidable.decide (y.1=y.2)/\True)
 (ck (bC .i64 (↑x+1))
 (∃(y_1:Nat),
 (y_1<=y.1.length/\y.1.length=y.2.length/\List.take y_1 y.1=List.take y_1 y.2)/\
 aK.μ (vv y) y_1<aK.μ (vv y) x/\
 (SV.aJ aH y.1 aH.enc=SV.aJ aH y.1 aH.enc/\
 SV.aJ aH y.2 aH.enc=SV.aJ aH y.2 aH.enc/\
 az (↑x+1) ↑y_1/\True)/\
 True/\True)))
 (true=Decidable.decide (y.1=y.2)/\True))):=by kernel_rfl
end
section
variable [Inhabited aF]
theorem Gv:∀g C,vM g=some C->CO g C:=bX Rf Nu
theorem HA (a b:aC):(a.name==b.name&&(a.domain==b.domain&&(a.path==b.path&&true)))=decide (a=b):=by
 rw[A4]
 cases a;cases b;simp
section
variable {l:List aH} {p:aH->Bool} {x:Nat}
end
theorem Re:CO ph y5:=bZ (cfg:=fun y=>dH di (dM y)) bH (fun _=>rfl) (fun _=>kg) (n:=400) (by
 rw[Q6];rintro⟨a,b⟩ -;simp[aj,cm,fc];refine⟨fun h1 h2=>by omega,fun h1=>⟨fun h2=>?_,fun h2=>?_⟩⟩
 . rw[if_neg (by omega),if_pos h2]
 . rw[if_neg (by omega),if_neg (by omega)])
theorem P5:CO pj nX:=bZ (cfg:=fun y=>dH vM (dM y)) bH (fun _=>rfl) (fun _=>Gv) (n:=400) (by
 rw[Q7];rintro⟨a,b⟩ -;exact⟨(a,b),rfl,rfl,trivial,rfl,trivial⟩)
theorem Gw:∀g C,vN g=some C->CO g C:=bX Re (bX P5 Gv)
theorem Rt:CO pM y6:=bZ (cfg:=fun y=>dH vN (dM y)) bH (fun _=>rfl) (fun _=>Gw) (n:=600) (by
 rw[Rb];rintro⟨a,b⟩ -;refine⟨(_,_),rfl,rfl,trivial,⟨(_,_),rfl,rfl,trivial,⟨(_,_),rfl,rfl,trivial,?_⟩⟩⟩;simp only[aj,nf,Dv];generalize dQ a.name b.name=n
 generalize dQ a.domain b.domain=d
 generalize dQ a.path b.path=p
 refine⟨fun h=>?_,fun h=>⟨fun h2=>?_,fun h2=>⟨fun h3=>?_,fun h3=>?_⟩⟩⟩<;>simp_all)
theorem G8:∀g C,vO g=some C->CO g C:=bX Rt Gw
theorem Ru:CO pL qS:=bZ (cfg:=fun y=>dH vO (dM y)) bH (fun _=>rfl) (fun _=>G8) (n:=400) (by
 rw[QG];rintro⟨a,b⟩ -;refine⟨(a,b),rfl,rfl,rfl,rfl,rfl,rfl,trivial,?_,trivial⟩;simp only[cm,gG])
theorem Pp:CO pO qS:=bZ (cfg:=fun y=>dH di (dM y)) bH (fun _=>rfl) (fun _=>kg) (n:=400) (by
 rw[Pn];rintro⟨a,b⟩ -;simp only[aj,uf];refine⟨fun h=>?_,fun h=>⟨fun h2=>?_,fun h2=>?_⟩⟩<;>simp_all)
theorem Nv:∀g C,Jb g=some C->CO g C:=bX Ru (bX Pp G8)
theorem Nw:∀g C,Jc g=some C->CO g C:=Nv
theorem fY {x n:Nat} (h:bV (x:Int) (Int.ofNat n)=false):n<=x:=by
 have:=kC h;simp only[Aa]at this;omega
theorem Ht (a b:aH):(a.key.name==b.key.name&&(a.key.domain==b.key.domain&&(a.key.path==b.key.path&&true))&&(a.ae.value==b.ae.value&&(a.ae.bI==b.ae.bI&&(a.ae.cK==b.ae.cK&&(a.ae.bJ==b.ae.bJ&&(a.ae.persistent==b.ae.persistent&&(a.ae.cA==b.ae.cA&&(a.ae.bE==b.ae.bE&&(a.ae.access==b.ae.access&&true)))))))&&true))=decide (a=b):=by
 rw[A4];obtain⟨⟨a1,a2,a3⟩,⟨a4,a5,a6,a7,a8,a9,a10,a11⟩⟩:=a;obtain⟨⟨b1,b2,b3⟩,⟨b4,b5,b6,b7,b8,b9,b10,b11⟩⟩:=b;simp only[Ab,BJ,Ae,aH.mk.injEq,aC.mk.injEq,eF.mk.injEq,Dv]
theorem Pw:CO lX yQ:=bZ (cfg:=fun y=>dH di (cS lX 4 (vv y))) bH (fun _=>rfl) (fun _=>kg) (n:=400) (by
 rw[Qp];rintro⟨l,m⟩ ⟨hl,hm⟩;have hl:l.length<=10000:=hl;refine aj.2 ⟨fun h=>⟨?_,trivial⟩,fun h=>⟨⟨0,⟨by simp,?_,by simp⟩,?_⟩,?_⟩⟩
 . symm;rw[Ai];intro e;have e:l=m:=e;subst e;simp at h
 . simp only[D9,BJ,Aa]at h;simp only at h⊢;omega
 . (repeat' (first|exact trivial|exact rfl|exact(fun _=>rfl)|apply And.intro))
 rintro x ⟨hx,hlen,ht⟩;have hlen:l.length=m.length:=hlen;have ht:l.take x=m.take x:=ht;refine aj.2 ⟨fun hlt=>?_,fun hge=>⟨?_,trivial⟩⟩
 . have hlt':x<l.length:=cY hlt;refine ar.2 ⟨_,dz hlt',ar.2 ⟨_,dz (show x<m.length by omega),aj.2 ⟨fun h2=>⟨?_,trivial⟩,fun h2=>ah.2 ⟨cM x (by omega),x+1,⟨hlt',hlen,?_⟩,?_,?_⟩⟩⟩⟩
   . rw[Ht]at h2;symm;rw[Ai];intro e;have e:l=m:=e;subst e;simp at h2
   . rw[Ht]at h2;show l.take (x+1)=m.take (x+1)
     rw[Az hlt',Az (show x<m.length by omega),ht];have:l[x]=m[x]'(by omega):=by simpa using h2
     rw[this]
   . show l.length - (x+1)<l.length - x
     omega
   . (repeat' (first|exact trivial|exact rfl|exact(fun _=>rfl)|apply And.intro))
 . symm;rw[Ae];have:l.length<=x:=fY hge;rw[As (by omega),As (by omega)]at ht;exact ht)
theorem nP {α β:Type} (f:β->α->β) (b:β) {l:List α} {x:Nat} (h:x<l.length):(l.take (x+1)).foldl f b=f ((l.take x).foldl f b) l[x]:=by
 rw[Az h,EG];rfl
theorem MY {α:Type} {l:List α} {x:Nat} (h:¬(x:Int)<Int.ofNat l.length):l.take x=l:=As (by simp only[Aa]at h;omega)
theorem Nx:∀g C,Jd g=some C->CO g C:=bX Pw Nw
theorem Ij {α:Type} {p:α->Bool}:∀{l:List α} {j:Nat} (_:j<(l.takeWhile p).length),∃h:j<l.length,p l[j]=true
 |[],j,hj=>by simp at hj
 | a ::l,j,hj=>by
  by_cases hb:p a=true
  . rw[BA,if_pos hb]at hj
    cases j with
    |zero=>exact⟨by simp,by simpa using hb⟩
    |succ j=>
     obtain⟨h1,h2⟩:=Ij (l:=l) (j:=j) (by simpa using hj);exact⟨by simpa using h1,by simpa using h2⟩
  . rw[BA,if_neg hb]at hj;simp at hj
theorem Jp {α:Type} {p:α->Bool}:∀{l:List α} (h:(l.takeWhile p).length<l.length),p (l[(l.takeWhile p).length])=false
 |[],h=>by simp at h
 |a::l,h=>by
  by_cases hb:p a=true
  . have e:((a::l).takeWhile p).length=(l.takeWhile p).length+1:=by rw[BA,if_pos hb];rfl
    simp only[e,Fg];exact Jp (by rw[e]at h;simpa using h)
  . have e:((a::l).takeWhile p).length=0:=by rw[BA,if_neg hb];rfl
    simp only[e,Ff];exact AN.2 hb
theorem Ny:∀g C,Je g=some C->CO g C:=Nx
end
section
variable [Inhabited aF]
structure ag where
 dev:Int
 inc:Int
 seq:Int
deriving DecidableEq,Inhabited
structure dm where
 wall:Int
 count:Int
 dev:Int
deriving DecidableEq,Inhabited
def ag.enc (x:ag):List SV:=[.int .i64 x.dev, .int .i64 x.inc, .int .i64 x.seq]
def dm.enc (x:dm):List SV:=[.int .i64 x.wall, .int .i64 x.count, .int .i64 x.dev]
def sO (d i:Int):Bool:=bG 0 d&&bG d 63&&bG 1 i&&bG i 1048576
def eL (x:ag):Bool:=sO x.dev x.inc&&bG 1 x.seq&&bG x.seq 4294967296
def kL (a b c:Int):Bool:=bG b a&&bG a c
def kI (x:dm):Bool:=kL x.wall 0 4398046511104&&kL x.count 0 65535&&kL x.dev 0 63
def kB (a b:Int):Int:=if a=0 then b else a
def vx (x y:ag):Int:=kB (fc x.dev y.dev) (fc x.inc y.inc)
def mo (x y:ag):Int:=kB (vx x y) (fc x.seq y.seq)
def bu (x y:ag):Bool:=decide (mo x y<0)
def vI (x y:dm):Int:=kB (fc x.wall y.wall) (fc x.count y.count)
def jE (x y:dm):Bool:=decide (kB (vI x y) (fc x.dev y.dev)<0)
def mI:aP:={Y:=Int×Int,pre:=fun _=>True,args:=fun y=>[.agg [i64 y.1,i64 y.2]],res:=fun y=> .bool (sO y.1 y.2)}
def sS (p:ag->Bool):aP:={Y:=ag,pre:=fun _=>True,args:=fun y=>[.agg y.enc],res:=fun y=> .bool (p y)}
def uZ (p:dm->Bool):aP:={Y:=dm,pre:=fun _=>True,args:=fun y=>[.agg y.enc],res:=fun y=> .bool (p y)}
def HR:aP:={Y:=Int×Int×Int,pre:=fun _=>True,args:=fun y=>[i64 y.1,i64 y.2.1,i64 y.2.2],res:=fun y=> .bool (kL y.1 y.2.1 y.2.2)}
def Ji:aP:={Y:=ag×ag,pre:=fun _=>True,args:=fun y=>[.agg [i64 y.1.dev,i64 y.1.inc], .agg [i64 y.2.dev,i64 y.2.inc]],res:=fun y=>i64 (vx y.1 y.2)}
def vZ:aP:={Y:=ag×ag,pre:=fun _=>True,args:=fun y=>[.agg y.1.enc, .agg y.2.enc],res:=fun y=>i64 (mo y.1 y.2)}
def v7:aP:={Y:=ag×ag,pre:=fun _=>True,args:=fun y=>[.agg y.1.enc, .agg y.2.enc],res:=fun y=> .bool (bu y.1 y.2)}
def Ir:aP:={Y:=dm×dm,pre:=fun _=>True,args:=fun y=>[.agg y.1.enc, .agg y.2.enc],res:=fun y=>i64 (vI y.1 y.2)}
def u4:aP:={Y:=dm×dm,pre:=fun _=>True,args:=fun y=>[.agg y.1.enc, .agg y.2.enc],res:=fun y=> .bool (jE y.1 y.2)}
noncomputable def nT (f:FuncId):Option aP:=bif Nat.beq f JP then some mI else bif Nat.beq f JB then some mI else bif Nat.beq f tt then some HR else Je f
noncomputable def sU (f:FuncId):Option aP:=bif Nat.beq f JQ then some (sS eL)else bif Nat.beq f JD then some (sS eL)else bif Nat.beq f Jl then some (uZ kI)else bif Nat.beq f JE then some (uZ kI)else bif Nat.beq f Jn then some Ji else bif Nat.beq f Jm then some Ir else nT f
noncomputable def wm (f:FuncId):Option aP:=bif Nat.beq f JR then some vZ else bif Nat.beq f JI then some u4 else bif Nat.beq f JL then some u4 else sU f
noncomputable def nU (f:FuncId):Option aP:=bif Nat.beq f JW then some v7 else bif Nat.beq f JK then some v7 else wm f
theorem wO (a:Int):bV a 64=bG a 63:=by
 rw[cm,fg,A4,Ae,Ae];omega
theorem Ih {a b:Int}:kB a b<0↔a<0\/(a=0/\b<0):=by
 unfold kB;by_cases h:a=0
 . simp[h]
 . simp[h]
theorem GW {a b:Int}:kB a b=0↔a=0/\b=0:=by
 unfold kB;by_cases h:a=0<;>simp[h]
theorem rK (x y:ag):bu x y=true↔x.dev<y.dev\/(x.dev=y.dev/\(x.inc<y.inc\/(x.inc=y.inc/\x.seq<y.seq))):=by
 unfold bu mo vx;simp only[Ae,Ih,GW,Gl,FE];constructor
 . rintro((h|⟨h1,h2⟩)|⟨⟨h1,h2⟩,h3⟩)
   . exact .inl h
   . exact .inr ⟨h1, .inl h2⟩
   . exact .inr ⟨h1, .inr ⟨h2,h3⟩⟩
 . rintro(h|⟨h1,h2|⟨h2,h3⟩⟩)
   . exact .inl (.inl h)
   . exact .inl (.inr ⟨h1,h2⟩)
   . exact .inr ⟨⟨h1,h2⟩,h3⟩
theorem Kw (x y:dm):jE x y=true↔x.wall<y.wall\/(x.wall=y.wall/\(x.count<y.count\/(x.count=y.count/\x.dev<y.dev))):=by
 unfold jE vI;simp only[Ae,Ih,GW,Gl,FE];constructor
 . rintro((h|⟨h1,h2⟩)|⟨⟨h1,h2⟩,h3⟩)
   . exact .inl h
   . exact .inr ⟨h1, .inl h2⟩
   . exact .inr ⟨h1, .inr ⟨h2,h3⟩⟩
 . rintro(h|⟨h1,h2|⟨h2,h3⟩⟩)
   . exact .inl (.inl h)
   . exact .inl (.inr ⟨h1,h2⟩)
   . exact .inr ⟨⟨h1,h2⟩,h3⟩
theorem ag.ext' {x y:ag} (h1:x.dev=y.dev) (h2:x.inc=y.inc) (h3:x.seq=y.seq):x=y:=by cases x;cases y;simp_all
theorem rC (x:ag):bu x x=false:=by
 rw[AN,ne_eq,rK];omega
theorem rD {x y z:ag} (h1:bu x y=true) (h2:bu y z=true):bu x z=true:=by
 rw[rK]at*;omega
theorem tP (x y:ag):bu x y=true\/x=y\/bu y x=true:=by
 simp only[rK];by_cases h:x.dev=y.dev/\x.inc=y.inc/\x.seq=y.seq
 . exact .inr (.inl (ag.ext' h.1 h.2.1 h.2.2))
 . have:x.dev<y.dev\/y.dev<x.dev\/(x.dev=y.dev/\(x.inc<y.inc\/y.inc<x.inc\/(x.inc=y.inc/\(x.seq<y.seq\/y.seq<x.seq)))):=by omega
   omega
theorem PZ:CO JP mI:=bZ (cfg:=fun y=>dH di (dM y)) bH (fun _=>rfl) (fun _=>rZ) (n:=400) (by
 rintro⟨a,b⟩ -
 repeat' (first|exact trivial|exact rfl|((conv=>whnf);first|(apply aA<;>intro)|apply And.intro))
 all_goals (simp_all[sO,wO]))
theorem ON:CO JB mI:=bZ (cfg:=fun y=>dH di (dM y)) bH (fun _=>rfl) (fun _=>rZ) (n:=400) (by
 rintro⟨a,b⟩ -
 repeat' (first|exact trivial|exact rfl|((conv=>whnf);first|(apply aA<;>intro)|apply And.intro))
 all_goals (simp_all[sO]))
theorem Oe:CO tt HR:=bZ (cfg:=fun y=>dH di (dM y)) bH (fun _=>rfl) (fun _=>rZ) (n:=400) (by
 rintro⟨a,b⟩ -
 repeat' (first|exact trivial|exact rfl|((conv=>whnf);first|(apply aA<;>intro)|apply And.intro))
 all_goals (simp_all[kL]))
theorem oM:∀g C,nT g=some C->CO g C:=bX PZ (bX ON (bX Oe Ny))
theorem Jq:CO JQ (sS eL):=bZ (cfg:=fun y=>dH nT (dM y)) bH (fun _=>rfl) (fun _=>oM) (n:=400) (by
 rintro⟨a,b,c⟩ -
 (conv=>whnf)
 refine⟨(a,b),?_⟩
 repeat' (first|exact trivial|exact rfl|((conv=>whnf);first|(apply aA<;>intro)|apply And.intro))
 all_goals (simp_all[eL]))
theorem Rj:CO JD (sS eL):=bZ (cfg:=fun y=>dH nT (dM y)) bH (fun _=>rfl) (fun _=>oM) (n:=400) (by
 rintro⟨a,b,c⟩ -
 (conv=>whnf)
 refine⟨(a,b),?_⟩
 repeat' (first|exact trivial|exact rfl|((conv=>whnf);first|(apply aA<;>intro)|apply And.intro))
 all_goals (simp_all[eL]))
theorem P4:CO Jl (uZ kI):=bZ (cfg:=fun y=>dH nT (dM y)) bH (fun _=>rfl) (fun _=>oM) (n:=400) (by
 rintro⟨a,b,c⟩ -
 repeat' (first|exact trivial|exact rfl|((conv=>whnf);first|(apply aA<;>intro)|apply And.intro))
 all_goals (simp_all[kI,kL]))
theorem OT:CO JE (uZ kI):=bZ (cfg:=fun y=>dH nT (dM y)) bH (fun _=>rfl) (fun _=>oM) (n:=400) (by
 rintro⟨a,b,c⟩ -
 repeat' (first|exact trivial|exact rfl|((conv=>whnf);first|(apply aA<;>intro)|apply And.intro))
 all_goals (simp_all[kI,kL]))
theorem Qk:CO Jn Ji:=bZ (cfg:=fun y=>dH nT (dM y)) bH (fun _=>rfl) (fun _=>oM) (n:=400) (by
 rintro⟨⟨a,b,c⟩,d,e,f⟩ -
 (conv=>whnf)
 refine⟨(a,d),?_⟩
 repeat ((conv=>whnf);first|refine⟨rfl,?_⟩|refine⟨trivial,?_⟩)
 (conv=>whnf)
 refine⟨(b,e),?_⟩
 repeat' (first|exact trivial|exact rfl|((conv=>whnf);first|(apply aA<;>intro)|apply And.intro))
 all_goals (simp_all[vx,kB]))
theorem Po:CO Jm Ir:=bZ (cfg:=fun y=>dH nT (dM y)) bH (fun _=>rfl) (fun _=>oM) (n:=400) (by
 rintro⟨⟨a,b,c⟩,d,e,f⟩ -
 (conv=>whnf)
 refine⟨(a,d),?_⟩
 repeat ((conv=>whnf);first|refine⟨rfl,?_⟩|refine⟨trivial,?_⟩)
 (conv=>whnf)
 refine⟨(b,e),?_⟩
 repeat' (first|exact trivial|exact rfl|((conv=>whnf);first|(apply aA<;>intro)|apply And.intro))
 all_goals (simp_all[vI,kB]))
theorem uA:∀g C,sU g=some C->CO g C:=bX Jq (bX Rj (bX P4 (bX OT (bX Qk (bX Po oM)))))
theorem Ps:CO JR vZ:=bZ (cfg:=fun y=>dH sU (dM y)) bH (fun _=>rfl) (fun _=>uA) (n:=400) (by
 rintro⟨x,y⟩ -
 (conv=>whnf)
 refine⟨(x,y),?_⟩
 repeat ((conv=>whnf);first|refine⟨rfl,?_⟩|refine⟨trivial,?_⟩)
 (conv=>whnf)
 refine⟨(x.seq,y.seq),?_⟩
 repeat' (first|exact trivial|exact rfl|((conv=>whnf);first|(apply aA<;>intro)|apply And.intro))
 all_goals (simp_all[mo,kB]))
theorem Ob:CO JI u4:=bZ (cfg:=fun y=>dH sU (dM y)) bH (fun _=>rfl) (fun _=>uA) (n:=400) (by
 rintro⟨x,y⟩ -
 (conv=>whnf)
 refine⟨(x,y),?_⟩
 repeat ((conv=>whnf);first|refine⟨rfl,?_⟩|refine⟨trivial,?_⟩)
 (conv=>whnf)
 refine⟨(x.dev,y.dev),?_⟩
 repeat' (first|exact trivial|exact rfl|((conv=>whnf);first|(apply aA<;>intro)|apply And.intro))
 all_goals (simp_all[jE,kB,cm]))
theorem Oc:CO JL u4:=bZ (cfg:=fun y=>dH sU (dM y)) bH (fun _=>rfl) (fun _=>uA) (n:=400) (by
 rintro⟨⟨a,b,c⟩,d,e,f⟩ -
 repeat' (first|exact trivial|exact rfl|((conv=>whnf);first|(apply aA<;>intro)|apply And.intro))
 all_goals (rw[A4,Kw,cm,Ae];simp_all<;>omega))
theorem xZ:∀g C,wm g=some C->CO g C:=bX Ps (bX Ob (bX Oc uA))
theorem Ri:CO JW v7:=bZ (cfg:=fun y=>dH wm (dM y)) bH (fun _=>rfl) (fun _=>xZ) (n:=400) (by
 rintro⟨x,y⟩ -
 (conv=>whnf)
 refine⟨(x,y),?_⟩
 repeat' (first|exact trivial|exact rfl|((conv=>whnf);first|(apply aA<;>intro)|apply And.intro))
 all_goals (simp_all[bu,cm]))
theorem P7:CO JK v7:=bZ (cfg:=fun y=>dH wm (dM y)) bH (fun _=>rfl) (fun _=>xZ) (n:=400) (by
 rintro⟨⟨a,b,c⟩,d,e,f⟩ -
 repeat' (first|exact trivial|exact rfl|((conv=>whnf);first|(apply aA<;>intro)|apply And.intro))
 all_goals (rw[A4,rK,cm,Ae];simp_all<;>omega))
theorem oN:∀g C,nU g=some C->CO g C:=bX Ri (bX P7 xZ)
end
abbrev KN (l:List aH):Prop:=(l.map fun x=>x.key).Nodup
theorem KN.nodup {l:List aH} (h:KN l):l.Nodup:=by
 unfold KN at h;rw[EY,ED]at h;rw[EY];exact h.imp fun hab e=>hab (by rw[e])
section
variable [Inhabited aF]
end
end Go.Proofs
namespace Go.Sy
open Go.Am Go.RowKit
universe u v
section
variable {H:Type} {enc:TypeId×Value->H} {P:Program} {w:World} {base:Nat} {spare:Nat->Bool} {held:Bool} {Fz:Nat->Option AO} {N:Nat}
def gi (Fz:Nat->Option AO) (N:Nat) (l:List SV) (cs:List Value):Prop:=l.length=cs.length/\ ∀(j:Nat) v u,l[j]? =some v->cs[j]? =some u->aI Fz v (cO N u)
theorem gi.nil:gi Fz N [] []:=⟨rfl,fun j v u h=>by simp at h⟩
theorem gi.cons {s:SV} {v:Value} {l:List SV} {m:List Value} (h:aI Fz s (cO N v)) (t:gi Fz N l m):gi Fz N (s::l) (v::m):=by
 refine⟨by simp[t.1],fun i a b ha hb=>?_⟩
 cases i with
 |zero=>simp at ha hb;subst ha;subst hb;exact h
 |succ i=>exact t.2 i a b (by simpa using ha) (by simpa using hb)
theorem gi.append {l l':List SV} {m m':List Value} (h:gi Fz N l m) (h':gi Fz N l' m'):gi Fz N (l++l') (m++m'):=by
 refine⟨by simp[h.1,h'.1],fun i a b ha hb=>?_⟩;by_cases hi:i<l.length
 . rw[AX hi]at ha;rw[AX (by rw[<-h.1];exact hi)]at hb;exact h.2 i a b ha hb
 . rw[A3 (by omega)]at ha;rw[A3 (by rw[<-h.1];omega),<-h.1]at hb;exact h'.2 _ a b ha hb
structure ef (P:Program) (w:World) (base:Nat) (spare:Nat->Bool) (held:Bool) {H:Type} (henc:TypeId×Value->H) (Fz:Nat->Option AO) (N:Nat) (t:TypeId) (X:Type) (enc:X->List SV):Prop where
 one:∀fuel cs x,DataW.trod henc P w base spare held fuel t cs=some x->∃y:X,gi Fz N (enc y) cs
variable (enc) in
abbrev iY (P:Program) (w:World) (base:Nat) (spare:Nat->Bool) (held:Bool) (Fz:Nat->Option AO) (N:Nat) (t:TypeId) (X:Type) (e:X->List SV):Prop:=ef P w base spare held enc Fz N t X e
theorem ef.bool {t:TypeId} (ht:P.underlying t=some .bool):iY enc P w base spare held Fz N t Bool (fun b=>[.bool b]):=by
 refine⟨fun fuel cs x h=>?_⟩;obtain⟨b,rfl,_⟩:=DataW.trod_bool ht h;exact⟨b, .cons (.bool b) .nil⟩
theorem ef.int {t:TypeId} {k:IntKind} (ht:P.underlying t=some (.int k)):iY enc P w base spare held Fz N t Int (fun b=>[.int k b]):=by
 refine⟨fun fuel cs x h=>?_⟩;obtain⟨b,rfl,_⟩:=DataW.trod_int ht h;exact⟨b, .cons (.int k b) .nil⟩
theorem ef.str {t:TypeId} (ht:P.underlying t=some .string):iY enc P w base spare held Fz N t (List UInt8) (fun b=>[.str b]):=by
 refine⟨fun fuel cs x h=>?_⟩;obtain⟨s,rfl,_⟩:=DataW.trod_string ht h;exact⟨s.data.toList, .cons (.str _) .nil⟩
theorem ef.map {t:TypeId} {X Y:Type} {e:X->List SV} {e':Y->List SV} (h:iY enc P w base spare held Fz N t X e) (f:X->Y) (hf:∀x,e' (f x)=e x):iY enc P w base spare held Fz N t Y e':=by
 refine⟨fun fuel cs x hx=>?_⟩;obtain⟨y,hy⟩:=h.one fuel cs x hx;exact⟨f y,by rw[hf];exact hy⟩
inductive j7 (P:Program) (w:World) (base:Nat) (spare:Nat->Bool) (held:Bool) {H:Type} (henc:TypeId×Value->H) (Fz:Nat->Option AO) (N:Nat):Nat->List Field->(X:Type)->(X->List SV)->Prop
 |nil {o:Nat}:j7 P w base spare held henc Fz N o [] Unit (fun _=>[])
 |cons {o:Nat} {f:Field} {fs:List Field} {X Y:Type} {e:X->List SV} {e':Y->List SV} (ho:f.offset=o) (h:ef P w base spare held henc Fz N f.type X e) (t:j7 P w base spare held henc Fz N (o+P.cellsOf f.type) fs Y e'):
  j7 P w base spare held henc Fz N o (f::fs) (X×Y) (fun y=>e y.1++e' y.2)
def lE (P:Program):List Field->Nat
 |[]=>0
 |f::fs=>P.cellsOf f.type+lE P fs
theorem j7.run {o:Nat} {fs:List Field} {X:Type} {e:X->List SV} (h:j7 P w base spare held enc Fz N o fs X e):∀(cs:List Value) (n:Nat),cs.length=o+lE P fs->
  (∀f∈fs,∃x,DataW.trod enc P w base spare held n f.type ((cs.drop f.offset).take (P.cellsOf f.type))=some x)->∃y:X,gi Fz N (e y) (cs.drop o):=by
 induction h with
 |nil=>
  intro cs n hl _;refine⟨(),?_⟩;simp only[lE]at hl;rw[List.drop_of_length_le (by omega)];exact .nil
 | @cons o f fs X Y e e' ho h t ih=>
  intro cs n hl hf;simp only[lE]at hl;obtain⟨x,hx⟩:=hf f Ao;obtain⟨y,hy⟩:=h.one n _ _ hx;obtain⟨z,hz⟩:=ih cs n (by omega) (fun g hg=>hf g (An _ hg));refine⟨(y,z),?_⟩;have:=hy.append hz;rw[ho]at this;rw[show List.drop o cs=List.take (P.cellsOf f.type) (List.drop o cs)++List.drop (o+P.cellsOf f.type) cs by rw[<-Et,Dh]];exact this
theorem ef.struct {t:TypeId} {fs:Array Field} {X:Type} {e:X->List SV} (ht:P.underlying t=some (.struct fs)) (hc:P.cellsOf t=lE P fs.toList) (h:j7 P w base spare held enc Fz N 0 fs.toList X e):iY enc P w base spare held Fz N t X e:=by
 refine⟨fun fuel cs x hx=>?_⟩;obtain⟨xs,n,_,_,hl,hn,hg⟩:=DataW.trod_struct ht hx;have:=h.run cs n (by rw[hl,hc];simp) (fun f hf=>by
  obtain⟨i,hi⟩:=List.getElem?_of_mem hf;have h1:=hg i f (by simpa using hi);have hlt:i<fs.size:=by
   have:=(Ad.1 hi).1;simpa using this
  rw[Ag (by omega)]at h1;exact⟨_,h1⟩)
 simpa using this
end
end Go.Sy
namespace Go.Sy
open Go.Am Go.RowKit
end Go.Sy
namespace Go.Sy
open Go.Am Go.RowKit
variable [Inhabited aF]
section
variable {H:Type} {enc:TypeId×Value->H} {P:Program} {tab:aZ} {w:World} {base:Nat} {spare:Nat->Bool} {held:Bool}
theorem HT {a:Addr} {k:Nat} {u:Value} (hs:a.spot=none) (h:w.cell? (a.add k)=some u):∃arr e fz,w.heap[a.block]? =some (.cells arr e fz)/\arr[a.off+k]? =some u:=by
 obtain⟨b,o,s⟩:=a;simp only at hs;subst hs;have e2:(⟨b,o,none⟩:Addr).add k=⟨b,o+k,none⟩:=by unfold Addr.add;split<;>simp_all
 rw[e2]at h;unfold World.cell? at h;split at h
 . rename_i arr e fz hb;simp only[Bi,Ak,Aw]at h;exact⟨arr,e,fz,hb,h⟩
 . cases h
theorem ef.slice {t e n:Nat} (ht:P.underlying t=some (.slice e)) (hn:P.cellsOf e=n) (h0:0<n) {X:Type} {ex:X->List SV} (hx:∀x,(ex x).length=n)
   (h:iY enc P w base spare held (bS tab w).get w.heap.size e X ex):iY enc P w base spare held (bS tab w).get w.heap.size t (List X) (fun L=>[.aJ X L ex]):=by
 refine⟨fun fuel cs x hd=>?_⟩;rcases DataW.trod_slice ht hd with⟨rfl,_⟩|⟨a,len,cap,elems,rest,m,_,rfl,_,hb,hle,hc,hel,hi,_,_⟩
 . exact⟨[], .cons (.bL rfl (.inl rfl)) .nil⟩
 . have each:∀i:Fin len,∃y:X,∃cs',w.cells? base (a.add (i.val*n)) n=some cs'/\gi (bS tab w).get w.heap.size (ex y) cs':=by
     intro i;have h1:=hi i.val i.isLt;rw[Ag (by rw[hel];exact i.isLt)]at h1;obtain⟨cs',h2,h3⟩:=Ei.1 h1;rw[hn]at h2;obtain⟨y,hy⟩:=h.one _ _ _ h3;exact⟨y,cs',h2,hy⟩
   obtain⟨f,hf⟩:=Classical.skolem.1 each;by_cases hl:len=0
   . subst hl;exact⟨[], .cons (.bL rfl (.inr (.inr ⟨some a,cap,yg _ _ _⟩))) .nil⟩
   . have cell:∀(i:Fin len) (j:Nat) v,(ex (f i))[j]? =some v->∃u,w.cell? ((a.add (i.val*n)).add j)=some u/\aI (bS tab w).get v (cO w.heap.size u):=by
      intro i j v hv;obtain⟨cs',h2,h3⟩:=hf i;have hj:j<n:=by rw[<-hx (f i)];exact(Ad.1 hv).1
      unfold World.cells? at h2;split at h2
      . have h4:=mapM_some_get h2 j j (by simp[hj]);have hlt:j<cs'.length:=by rw[<-h3.1,hx];exact hj
        rw[Ag hlt]at h4;exact⟨_,h4,h3.2 j v _ hv (Ag hlt)⟩
      . cases h2
     have hadd:∀i j,(a.add i).add j=a.add (i+j):=by
      intro i j;unfold Addr.add;by_cases hi:i=0
      . subst hi;simp
      . by_cases hj:j=0
        . subst hj;simp[hi]
        . simp[hi,hj,BZ]
     have hl0:0<(ex (f ⟨0,by omega⟩)).length:=by rw[hx (f ⟨0,by omega⟩)];exact h0
     obtain⟨v0,hv0⟩:∃v,(ex (f ⟨0,by omega⟩))[0]? =some v:=⟨_,Ag hl0⟩;obtain⟨u0,hu0,_⟩:=cell ⟨0,by omega⟩ 0 v0 hv0;rw[hadd]at hu0;have hspot:a.spot=none:=by
      have:=World.cell?_spot hu0;simpa [Addr.add]using this
     obtain⟨arr,et,fz,hblk,_⟩:=HT hspot hu0;have hcell:∀(i:Nat) x (j:Nat) v,(List.ofFn f)[i]? =some x->(ex x)[j]? =some v->∃u,arr[a.off+i*n+j]? =some u/\aI (bS tab w).get v (cO w.heap.size u):=by
      intro i x j v hx' hv;have hil:i<len:=by have:=(Ad.1 hx').1;simpa using this
      have hxe:x=f ⟨i,hil⟩:=by
        rw[Ag (by simpa using hil)]at hx';simpa using(B8 hx').symm
      subst hxe;obtain⟨u,hu,hs⟩:=cell ⟨i,hil⟩ j v hv;rw[hadd]at hu;obtain⟨arr',et',fz',hblk',hu'⟩:=HT hspot hu;rw[hblk]at hblk'
      cases hblk';exact⟨u,by rw[BZ];exact hu',hs⟩
     refine⟨List.ofFn f, .cons ?_ .nil⟩;have hspec:(⟨a.block,a.off,none⟩:Addr)=a:=by obtain⟨b,o,s⟩:=a;simp only at hspot;subst hspot;rfl
     rw [<-hspec];have hlast:a.off+(List.ofFn f).length*n<=arr.size:=by
      have hl1:n - 1<(ex (f ⟨len - 1,by omega⟩)).length:=by rw[hx (f ⟨len - 1,by omega⟩)];omega
      obtain⟨v1,hv1⟩:∃v,(ex (f ⟨len - 1,by omega⟩))[n - 1]? =some v:=⟨_,Ag hl1⟩;obtain⟨u1,hu1,_⟩:=hcell (len - 1) (f ⟨len - 1,by omega⟩) (n - 1) v1 (by rw[Ag (by simp;omega)];simp) hv1;have:=(Ac.1 hu1).1;simp only[List.length_ofFn];have e3:len*n=(len - 1)*n+n:=by
        conv=>lhs;rw[show len=(len - 1)+1 by omega]
        rw[Bq,DD]
      omega
     exact ym hblk h0 (fun x _=>hx x) hlast (by simp) hle hcell
end
end Go.Sy
