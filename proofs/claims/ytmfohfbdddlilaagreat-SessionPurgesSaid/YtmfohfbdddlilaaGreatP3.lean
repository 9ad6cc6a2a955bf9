/- Part 3: an evaluator, proved sound, and its use at this seat; no condition. -/
import Derived.Calls
import Derived.KernelRfl
import Derived.Lib.Bytealg
import Derived.DataReads
import Derived.ChangeArms
import Derived.Test.YtmfohfbdddlilaaGreatP1
import Derived.Test.YtmfohfbdddlilaaGreatP2
set_option linter.unusedSimpArgs false
set_option linter.unusedVariables false
set_option linter.unusedSectionVars false
set_option linter.deprecated false
set_option maxRecDepth 100000
set_option maxHeartbeats 4000000
namespace Go.Sy
open Go.Am Go.RowKit
section
universe u v
variable [Inhabited aL]
section
variable {P:Program} {tab:bB} {cfg:iL} {ops:Array Oper} {nt:Nat} {rec:SM->(SV->St->Prop)->Prop}
theorem ZI (htab:cfg.tab=tab) (hrec:oY P tab rec) (hcon:∀g C,cfg.gP g=some C->cE P tab g C) {C:Cx} {d:SD} {e:DS} {i:Nat} {o:Oper} {K:SD->Prop} (h:qa cfg rec ops nt i o d K) (S:kf tab ops C d e):
   oz P tab ops nt i o e fun e'=>∃d' C' new,K d'/\kf tab ops C' d' e'/\Prog C d e new C' d' e':=by
 obtain⟨s,aP,reads,aF⟩:=d;obtain⟨hF,H,hanc,hal,hrd⟩:=S;simp only at hF H hanc hal hrd;subst hanc;simp only[qa]at h;obtain⟨hok,h⟩:=di h;obtain⟨w,s1,h1,hw,hF1,eh,el⟩:=Cm h hF;clear h;obtain⟨rfl,h1⟩:=di h1;have h:=mM (mM (wE (mM h1)));clear h1;obtain⟨ts,hh,log⟩:=s1;simp only at h eh el hF1;subst eh;have halh:=hal.filter (fun j=> !(cM j (eG e.aP o)));generalize hhd:(aF.filter fun x=> !(cM x.1 (eG e.aP o)))=hid at h halh
 generalize hhA:(e.aF.filter fun x=> !(cM x.1 (eG e.aP o)))=hidA at halh
 have hnot:∀p o' I,s.h.get p=some o'->C.ρ p=some I->I.cap.isSome->(¬∃x∈hid,x.2=p)->¬∃y∈hidA,y.2=I.β:=by
   rintro p o' I hp hI hc hn ⟨y,hy,hyb⟩;obtain⟨x,hx,ox,Ix,x1,x2,x3,x4⟩:=halh.right y hy;exact hn ⟨x,hx,(H.inj p x.2 o' ox I Ix hp x1 hI x2 hc x3 (by rw[x4,hyb])).symm⟩
 have hfz:∀j ob,C.Fz j=some ob->¬∃y∈hidA,y.2=j:=by
   rintro j ob hj ⟨y,hy,rfl⟩;obtain⟨x,hx,ox,Ix,x1,x2,x3,x4⟩:=halh.right y hy;have:=H.dj x.2 ox Ix x1 x2 x3;rw[x4,hj]at this;cases this
 have Hh:HS tab C (o7 s.h hid) (iT e.h hidA):=by
   refine H.part (S2 _ _) (fun p o' hp=>?_) (fun j ob hj=>?_) (jD _ _) (fun j ob hj=>?_) (fun p o' I hp hI hc=>?_)
   . rw[wG]at hp;split at hp
     . cases hp
     . exact hp
   . rw[iQ]at hj;split at hj
     . cases hj
     . exact hj
   . rw[iQ,if_neg (hfz j ob hj)];exact H.fz j ob hj
   . rw[wG]at hp;split at hp
     . cases hp
     . rename_i hn;rw[iQ,if_neg (hnot p o' I hp hI hc hn)]
 have heff:=L2 (s:=⟨ts,o7 s.h hid,[]⟩) (ta:=e.ts) htab hrec hcon h hF1 Hh;refine⟨hok,hw,?_⟩;rw[hhA];refine heff.mono ?_;rintro v h1 hle ⟨sv,s',hk,⟨⟨C',new,e1,e2,e3,e4,e5,e6⟩,e7⟩⟩;obtain⟨ts',h',log'⟩:=s';simp only[BR]at e1 hk e4 e5;subst e1;obtain⟨hck,hk⟩:=di hk;simp only[Aa,AI]at hck;obtain⟨hck1,hck2⟩:=hck;obtain⟨B1,B2,B3,B4⟩:=H.bare halh e2 e4 e7 (fun x hx=>MB (hck2 x hx));obtain⟨s2,k1,k2,k3,k4⟩:=sR (s:=⟨ts',lQ h' s.h log' hid,log++log'⟩) hk e5 e3;have hread:∀x∈e.reads.filter (fun x=> !(cM x.1 (eG e.aP o))),∃rs,(x.1,rs)∈reads.filter (fun x=> !(cM x.1 (eG e.aP o)))/\rR tab ops C s.h e.h x rs/\
     ∀p∈rs,(∀e∈log',e.id≠p)/\(h'.get p).isSome/\ ¬∃y∈hid,y.2=p:=by
   intro x hx;obtain⟨hx1,hx2⟩:=Ar.1 hx;obtain⟨rs,g1,g2⟩:=hrd x hx1;have hm:(x.1,rs)∈reads.filter (fun x=> !(cM x.1 (eG e.aP o))):=Ar.2 ⟨g1,hx2⟩;refine⟨rs,hm,g2,fun p hp=>?_⟩;have h5:=hck1 _ hm p hp;refine⟨MB h5.1.1,h5.1.2,?_⟩;rintro⟨y,hy,rfl⟩;have h6:=h5.2 y hy;simp at h6
 have hkeep:∀p o' I,s.h.get p=some o'->C.ρ p=some I->I.cap.isSome->(∀e∈log',e.id≠p)->(h'.get p).isSome->(¬∃y∈hid,y.2=p)->
     (jk h1 e.h hidA).get I.β=e.h.get I.β/\ ∃o',(lQ h' s.h log' hid).get p=some o'/\C'.ρ p=some I:=by
   intro p o' I hp hI hc hm hs hn;obtain⟨k,_⟩:=e6 p o' I (by simp only;rw[wG,if_neg hn];exact hp) hI hc (fun hmm=>by
     obtain⟨e',he',hid'⟩:=Sx hmm;exact hm e' he' hid')
   rw[iQ,if_neg (hnot p o' I hp hI hc hn)]at k;obtain⟨o2,ho2⟩:=BM.1 hs;refine⟨?_,o2,by rw[qk,if_neg hn];exact ho2,e2.same hI hc hm⟩;rw[oL,if_neg (hnot p o' I hp hI hc hn)];exact k
 have hstb:∀x∈e.reads.filter (fun x=> !(cM x.1 (eG e.aP o))),∃rs,(x.1,rs)∈reads.filter (fun x=> !(cM x.1 (eG e.aP o)))/\rR tab ops C' (lQ h' s.h log' hid) (jk h1 e.h hidA) x rs:=by
   intro x hx;obtain⟨rs,g1,g2,g3⟩:=hread x hx;exact⟨rs,g1,g2.mono e2.fz fun p hp o' I hpo hI hc=>hkeep p o' I hpo hI hc (g3 p hp).1 (g3 p hp).2.1 (g3 p hp).2.2⟩
 refine⟨Vb fun x hx=>?_,_,C',log',k1,⟨?_,?_,rfl,?_,?_⟩,⟨?_,e2,?_,?_⟩⟩
 . obtain⟨rs,g1,g2,g3⟩:=hread x hx;obtain⟨ox,a0,hx1,q1,q2,q3,qb,q4,q5⟩:=g2;refine⟨ox,_,q1,zw q2 q3 (h:=iT (jk h1 e.h hidA) hidA) (fun β ob hβ=>?_) q4,qb⟩;rcases q5 β ob hβ with hz|⟨hz,p,hp,o',I,p1,p2,p3,rfl⟩
   . rw[iQ,if_neg (hfz β ob hz),oL,if_neg (hfz β ob hz)];exact e4.fz _ _ (e2.fz _ _ hz)
   . obtain⟨r1,r2,r3⟩:=g3 p hp;rw[iQ,if_neg (hnot p o' I p1 p2 p3 r3),(hkeep p o' I p1 p2 p3 r1 r2 r3).1];exact hz
 . simp only;rw[wm];exact k2
 . simp only;rw[k3];exact B1
 . simp only;rw[k3];exact halh.mono fun x hx o' I hp hI hc=>(B4 x hx o' I hp hI hc).2
 . simp only;rw[k3];exact hstb
 . simp only;rw[k4];simp only;rw[el]
 . refine⟨?_,fun j ob hj=>?_⟩
   . simp only;rw[sb];have:=e7.next;rw[jD]at this;exact this
   . simp only at hj;rw[oL]at hj;split at hj
     . exact .inl ⟨ob,hj⟩
     . rcases e7.old j ob hj with⟨o0,h0⟩|hge
       . rw[iQ]at h0;split at h0
         . cases h0
         . exact .inl ⟨o0,h0⟩
       . rw[jD]at hge;exact .inr hge
 . simp only;rw[k3];intro p o' I hp hI hc hm;by_cases hn:∃y∈hid,y.2=p
   . obtain⟨y,hy,rfl⟩:=hn;obtain⟨q1,q2⟩:=B4 y hy o' I hp hI hc;exact⟨q1, .inl q2⟩
   . obtain⟨q1,q2⟩:=e6 p o' I (by simp only;rw[wG,if_neg hn];exact hp) hI hc hm;rw[iQ,if_neg (hnot p o' I hp hI hc hn)]at q1;refine⟨by rw[oL,if_neg (hnot p o' I hp hI hc hn)];exact q1,?_⟩;rcases q2 with⟨o2,r1,r2⟩|r
     . exact .inl ⟨o2,by simp only;rw[qk,if_neg hn];exact r1,r2⟩
     . exact .inr r
theorem LW (htab:cfg.tab=tab) (hrec:oY P tab rec) (hcon:∀g C,cfg.gP g=some C->cE P tab g C):FL P tab cfg rec:=by
 have main:∀(ops:Array Oper) (nt n:Nat) (d:SD) (e:DS) (C:Cx) (K:St->Prop),vr cfg rec ops nt n d K->kf tab ops C d e->
   gf P tab ops nt (fun sF=>∃s' C' new,K s'/\s'.log=d.s.log++new/\Tr C new C'/\HS tab C' s'.h sF.h/\FS C' s'.ts sF.ts/\Grow e.h sF.h/\dw C d.s.h e.h new C' s'.h sF.h) n e:=by
  intro ops nt n;induction n with
  |zero=>intro d e C K h;exact h.elim
  |succ n ih=>
   intro d e C K h S;simp only[vr]at h;obtain⟨e1,d1,C1,g1,g2,g3,g4⟩:=X8 htab ops.toList 0 d e C _ (fun j o hj=>by simpa using hj) h S;refine⟨e1,g1,?_⟩;rw[g3.aP]at g2;split at g2
   . rename_i hc;obtain⟨_,hk⟩:=di g2;exact .inl ⟨hc,d1.s,C1,[],hk,g4.log,g4.tr,g3.H,g3.F,g4.grow,g4.aX⟩
   . rename_i c o hc;refine .inr ⟨c,o,hc,?_⟩;obtain⟨q1,q2,q3⟩:=ZI htab hrec hcon g2 g3;refine⟨q1,q2,q3.mono fun v h1 _ hΘ=>⟨hΘ.1,?_⟩⟩;obtain⟨d2,C2,new,k1,k2,k3⟩:=hΘ.2;refine gf.mono ?_ _ _ (ih d2 _ C2 K k1 k2);rintro sF ⟨s',C',new',r1,r2,r3,r4,r5,r6,r7⟩;have p:=g4.trans k3 g3.H.fz k2.H.fz;simp only[BR]at p;exact⟨s',C',new++new',r1,by rw[r2,p.log,Dh],p.tr.trans r3,r4,r5,p.grow.trans r6,p.aX.trans r7 r3.fz k2.H.fz r4.fz⟩
   . exact g2.elim
 intro ops nt n s K ta a C h hF H;exact main ops nt n ⟨s, .e,[],[]⟩ {ts:=ta,h:=a,aP:= .e,reads:=[],aF:=[]} C K h ⟨hF,H,rfl,trivial,fun x hx=>by cases hx⟩
theorem HX (pr:gj P tab) (htab:cfg.tab=tab) (hcon:∀g C,cfg.gP g=some C->cE P tab g C) (n:Nat):oY P tab (wp cfg n):=
 WI pr htab hcon (fun _ hrec=>LW htab hrec hcon) n
end
end
section
universe u v
variable [Inhabited aL]
section
variable (cfg:iL)
def qW (e v:SV) (s:St):Prop:=
 match s with
 |⟨_,h,_⟩=>match e,v with
  | .bG es, .bG vs=>eC cfg 1000 es vs ⟨[],h,[]⟩ fun _=>True
  | .bG _,_=>False
  |e,v=>eC cfg 1000 [e] [v] ⟨[],h,[]⟩ fun _=>True
end
section
variable {P:Program} {tab:bB} {cfg:iL}
theorem Yd (htab:cfg.tab=tab) {e v:SV} {s:St} (h:qW cfg e v s) {C:Cx} {a:AH} {av:AV} (H:HS tab C s.h a) (hv:aM C v av):∃Fz':Nat->Option AO,(∀i o,C.Fz i=some o->Fz' i=some o)/\(∀i o,Fz' i=some o->a.get i=some o)/\aT Fz' e av:=by
 obtain⟨ts,hh,log⟩:=s;have one:∀(e v:SV),eC cfg 1000 [e] [v] ⟨[],hh,[]⟩ (fun _=>True)->aM C v av->∃Fz':Nat->Option AO,(∀i o,C.Fz i=some o->Fz' i=some o)/\(∀i o,Fz' i=some o->a.get i=some o)/\aT Fz' e av:=by
   intro e v h hv;obtain⟨C1,new,s1,g1,g2,g3,g4,g5,_,g7⟩:=C4 (ta:= .e) htab 1000 _ _ [av] _ C _ h (bg.cons hv bg.nil) (fun t s hs=>by simp[look]at hs) H;exact⟨C1.Fz,g2.fz,g3.fz,g7.2 0 e av rfl rfl⟩
 simp only[qW]at h;split at h
 . rename_i es vs;obtain⟨us,rfl,hs⟩:=yf hv;obtain⟨C1,new,s1,g1,g2,g3,g4,g5,_,g7⟩:=C4 (ta:= .e) htab 1000 _ _ us _ C _ h hs (fun t s hs=>by simp[look]at hs) H;exact⟨C1.Fz,g2.fz,g3.fz, .bG g7.1 g7.2⟩
 . exact h.elim
 . exact one _ _ h hv
end
end
section
universe u v
variable [Inhabited aL]
def vP (v:SV) (_:St):Prop:=match v with| .bool b=>b=true|_=>False
section
variable {P:Program} {tab:bB} {cfg:iL}
end
end
section
universe u v
variable [Inhabited aL]
section
variable {P:Program} {tab:bB}
theorem eW.shut (ok:bU P tab) {f:FuncId} {fn:Func} {body:Code} {avs:List AV} {Θ:AV->AH->Prop} (hfn:tab.fns.get f=some fn) (hb:fn.body=some body) (hgo:eW P {fr:=ai.enter fn f body avs .normal,cs:=[],h:=fB} Θ)
   (hargs:∀E E',bA E avs=bA E' avs) (hv:∀v h',Θ v h'->∀E E',af E v=af E' v) (a:AH):eW P {fr:=ai.enter fn f body avs .normal,cs:=[],h:=a} fun v a'=>a'=a/\ ∃h',Θ v h':=by
 intro D E K base frC csC w hR hB;have hP:=ok.fns f fn hfn;obtain⟨q1,q2,q3⟩:=hR.all E (ax.refl _ _);have hR0:Rel (fun _=>False) E (KS.old w.heap.size) {fr:=ai.enter fn f body avs .normal,cs:=[],h:=fB} base frC csC w:=by
   refine⟨fun E' _=>⟨LX E' _ w (fun b h=>h) (fun b h=>h),?_,q3⟩,fun i h=>h.elim,hR.wf⟩;rw[<-q2];simp only;rw[<-mL hP hb,<-mL hP hb,hargs E' E]
 obtain⟨v,h',hΘ,fr',w',v',E',D',s1,s2,s3,s4,s5,s6,s7,s8,s9,s10⟩:=hgo _ E _ base frC csC w hR0 (fun b hb=>⟨q1.kb b (hB b hb).1,(hB b hb).2⟩);refine⟨v,a,⟨rfl,h',hΘ⟩,fr',w',v',E,D,s1,s2,s3,fun E'' he=>⟨?_,?_⟩,ax.refl _ _,fun _ h=>h,hR.eN,⟨s8.os,s8.tape,s8.output,s8.size,fun b hb'=>s8.block b (q1.kb b hb'),s8.drawn⟩,Ai _,fun i hi=> .inl hi⟩
 . obtain⟨g1,_,_⟩:=hR.all E'' he;refine⟨fun i o hi=>?_,g1.nk,g1.inj,g1.eN,fun b hb'=>AY (g1.kb b hb') s8.size,g1.im,g1.k0⟩;obtain⟨c,h1,h2⟩:=g1.obj i o hi;refine⟨c,?_,h2⟩;rw[s8.block _ (Ae.1 h1).1];exact h1
 . rw[<-(s4 E' (ax.refl _ _)).2];exact hv v h' hΘ _ _
theorem cE.shut (pr:gj P tab) {f:FuncId} {C:aN} (h:∀fn body,tab.fns.get f=some fn->fn.body=some body->∀y,C.pre y->∀avs Fz,PL Fz (C.args y) avs->(∀E E',bA E avs=bA E' avs)/\ ∃Θ:AV->AH->Prop,eW P {fr:=ai.enter fn f body avs .normal,cs:=[],h:=fB} Θ/\ ∀v h',Θ v h'->(∀E E',af E v=af E' v)/\aT (fun _=>none) (C.res y) v):cE P tab f C:=by
 intro fn body hfn hb y hy Fz a avs hfz hwf hlen hav;obtain⟨h1,Θ,h2,h3⟩:=h fn body hfn hb y hy avs Fz ⟨hlen,hav⟩;refine(eW.shut pr.ok hfn hb h2 h1 (fun v h' hv=>(h3 v h' hv).1) a).mono ?_;rintro v a' ⟨rfl,h',hv⟩;exact⟨Fz,fun _ _ h=>h,hfz,(h3 v h' hv).2.mono (fun _ _ h=>by cases h),Grow.refl _,fun _ _ h=>h,hwf,fun _ _ h=> .inl h⟩
theorem eW.run (pr:gj P tab) {n:Nat} {m:AM} {outs:List (AV×AH)} (h:Am.run tab n m= .ok outs):eW P m fun v h'=>(v,h')∈outs:=by
 intro D E K base frC csC w hR hB;exact(UH pr.ok pr.ext (fun sub hsub=>zK pr.ok hsub pr.ext pr.mix) n).1 m outs h D E K base frC csC w hR
end
end
section
universe u v
variable [Inhabited aL]
def cQ (n:Nat):Value->AV
 | .bool b=> .bool b
 | .int k z=> .int k z
 | .string s=> .str s.data.toList
 | .pointer none=> .bo
 | .slice none 0 0=> .nils
 | .slice (some ⟨b,off,none⟩) (len+1) cap=>if b<n then .sl b off (len+1) (.lit cap)else .raw (.slice (some ⟨b,off,none⟩) (len+1) cap)
 | .map none=> .bF
 | .nilFunc=> .bL
 |v=> .raw v
def dB (n:Nat):Value->AV
 | .agg cs=> .agg (cs.toList.map (cQ n))
 |v=>cQ n v
theorem Ko {n:Nat} {E:Env} (hE:∀i,i<n->E.bh i=i) (v:Value):af E (cQ n v)=v:=by
 unfold cQ;split<;>try (simp[af];done)
 split
 . rename_i b off len cap hb;simp[af,hE _ hb,gi.val]
 . simp[af]
theorem Jx {n:Nat} {E:Env} (hE:∀i,i<n->E.bh i=i) (l:List Value):bA E (l.map (cQ n))=l:=by
 induction l with
 |nil=>rfl
 |cons v l ih=>simp[Ko hE,ih]
theorem zV {n:Nat} {E:Env} (hE:∀i,i<n->E.bh i=i) (v:Value):af E (dB n v)=v:=by
 unfold dB;split
 . simp[af,Jx hE]
 . exact Ko hE _
theorem wk {n:Nat} {E:Env} (hE:∀i,i<n->E.bh i=i) (l:List Value):bA E (l.map (dB n))=l:=by
 induction l with
 |nil=>rfl
 |cons v l ih=>simp[zV hE,ih]
def kz (tab:bB) (w:World) (b:Nat):Option AO:=
 match w.heap[b]? with
 |some (.cells arr e _)=>some (.cells (arr.toList.map (cQ w.heap.size)) e ((tab.siz.get e).getD 1) false .ro)
 |_=>none
def bT (tab:bB) (w:World):AH:=ofFn w.heap.size (kz tab w)
theorem J3 {tab:bB} {w:World} {b:Nat} {o:AO} (h:kz tab w b=some o):∃arr e fz,w.heap[b]? =some (.cells arr e fz)/\o= .cells (arr.toList.map (cQ w.heap.size)) e ((tab.siz.get e).getD 1) false .ro:=by
 unfold kz at h;split at h
 . rename_i arr e fz hb
   cases h;exact⟨arr,e,fz,hb,rfl⟩
 . cases h
theorem uE {tab:bB} {w:World} {b:Nat}:(bT tab w).get b=kz tab w b:=by
 unfold bT;rw[qA];split
 . rfl
 . rename_i hb;unfold kz;rw[DA (by omega)]
theorem oR (tab:bB) (w:World) {E:Env} (hE:∀i,i<w.heap.size->E.bh i=i):bN E (bT tab w) (KS.old w.heap.size) w:=by
 have hro:∀i o,(bT tab w).get i=some o->o.ro/\i<w.heap.size:=by
   intro i o hi;rw[uE]at hi;obtain⟨arr,e,fz,hb,rfl⟩:=J3 hi;exact⟨trivial,(Ae.1 hb).1⟩
 refine⟨fun i o hi=>?_,fun i o hi hr=>absurd (hro i o hi).1 hr,fun i j oi oj hi hj hr=>absurd (hro i oi hi).1 hr,fun i o hi=>(hro i o hi).2,fun b hb=>hb,fun i o hi _=>?_,fun b hb=>hb⟩
 . rw[uE]at hi;obtain⟨arr,e,fz,hb,rfl⟩:=J3 hi;have hlt:=(Ae.1 hb).1;refine⟨_,by rw[hE i hlt];exact hb,arr,fz,rfl,⟨[],by simp[Jx hE]⟩,by simp,trivial⟩
 . show E.bh i<w.heap.size
   rw[hE i (hro i o hi).2];exact(hro i o hi).2
theorem xi (n:Nat) (a:Addr) (c:Nat):cQ n (.slice (some a) 0 c)= .raw (.slice (some a) 0 c):=by
 unfold cQ;split<;>simp_all
theorem XL {n b off len cap:Nat} (h:len≠0) (hb:b<n):cQ n (.slice (some ⟨b,off,none⟩) len cap)= .sl b off len (.lit cap):=by
 cases len with
 |zero=>exact absurd rfl h
 |succ len=>simp[cQ,hb]
theorem xa {tab:bB} {w:World} {X:Type} {L:List X} {enc:X->List SV} {b off len cap:Nat} {arr:Array Value} {e:TypeId} {fz:Nat×Nat} {sz:Nat} (hb:w.heap[b]? =some (.cells arr e fz))
   (h0:0<sz) (hn:∀x∈L,(enc x).length=sz) (hl:off+L.length*sz<=arr.size) (hlen:len=L.length) (hcap:len<=cap)
   (hc:∀(i:Nat) x (j:Nat) v,L[i]? =some x->(enc x)[j]? =some v->∃u,arr[off+i*sz+j]? =some u/\aT (bT tab w).get v (cQ w.heap.size u)):
   aT (bT tab w).get (.ar X L enc) (cQ w.heap.size (.slice (some ⟨b,off,none⟩) len cap)):=by
 have hlt:=(Ae.1 hb).1;have hg:(bT tab w).get b=some (.cells (arr.toList.map (cQ w.heap.size)) e ((tab.siz.get e).getD 1) false .ro):=by
   rw[uE];unfold kz;rw[hb]
 subst hlen;by_cases hL:L.length=0
 . rw[hL,xi];exact .bX hL (.inr (.inr ⟨_,_,rfl⟩))
 rw[XL hL hlt];refine .ar b off (.lit cap) _ e sz false .ro (fun i j=>cQ w.heap.size (arr[off+i*sz+j]?.getD (.bool false))) ⟨_,false,hg,fun h=>by cases h⟩ h0 (by simpa using hl) (fun i x hx=>hn x (BD hx)) hcap ?_ ?_
 . intro i x j v hx hv;obtain⟨u,hu,_⟩:=hc i x j v hx hv;simp[hu]
 . intro i x j v hx hv;obtain⟨u,hu,hs⟩:=hc i x j v hx hv;simp only[hu,AU];exact hs
section
variable {P:Program} {tab:bB} {cfg:iL}
end
end
section
universe u v
variable [Inhabited aL]
abbrev ak (a b:Int):Prop:=a=b
theorem ah {b:Bool} {p q:Prop}:br b p q↔(b=true->p)/\(b=false->q):=by
 cases b<;>simp[br]
theorem aK {b:Bool} {p q:Prop} (h:b=true->p) (k:b=false->q):br b p q:=ah.2 ⟨h,k⟩
theorem ag {b:Bool} {p:Prop}:ck b p↔b=true/\p:=by
 cases b<;>simp[ck]
theorem au {α:Type u} {x:Option α} {k:α->Prop}:so x k↔∃a,x=some a/\k a:=by
 cases x<;>simp[so]
theorem lO (n:Int):nn n=decide (0<=n):=by
 rw[A2]
 cases n with
 |ofNat a=>simp only[nn,Ad,true_iff];exact EN a
 |negSucc a=>simp only[nn,Ad,Ak,false_iff];omega
theorem iq (n:Int):bq .i64 n=true↔ -9223372036854775808<=n/\n<=9223372036854775807:=by
 simp only[bq,zg,zd,fc,Aa,Ad];constructor<;>rintro⟨h1,h2⟩<;>constructor<;>(try simp only[Ac]at*)<;>omega
def cf {C:aN} (cfg:C.Y->iL) (n:Nat) (f:FuncId):Prop:=∀y:C.Y,C.pre y->ask (cfg y) n f (C.args y) (qW (cfg y) (C.res y))
theorem bZ {P:Program} {tab:bB} {C:aN} {cfg:C.Y->iL} (pr:gj P tab) (htab:∀y,(cfg y).tab=tab) (hcon:∀y g C',(cfg y).gP g=some C'->cE P tab g C') {n:Nat} {f:FuncId} (h:cf cfg n f):cE P tab f C:=by
 refine cE.of fun fn body hfn hb y hy C0 a avs hρ H hlen hav=>?_
 have h1:=h y hy;unfold ask at h1;rw[htab y,hfn]at h1;simp only[hb]at h1;refine(HX pr (htab y) (hcon y) n f fn body (C.args y) ⟨0,[]⟩ a C0 avs _ hfn hb h1 H ⟨hlen,fun i s v hs hv=> .pure (hav i s v hs hv)⟩).mono ?_;rintro v a' ⟨sv,s',C',k1,k2,k3,k4⟩;exact⟨sv,s',C',fun C1 a1 av H1 hv1=>Yd (htab y) k1 H1 hv1,k2,k3,k4⟩
theorem bR {P:Program} {tab:bB} {gP:FuncId->Option aN} {k:FuncId} {c:aN} (hc:cE P tab k c) (h:∀g C,gP g=some C->cE P tab g C):∀g C,(bif Nat.beq g k then some c else gP g)=some C->cE P tab g C:=by
 intro g C hg
 cases hb:Nat.beq g k
 . rw[hb]at hg;exact h g C hg
 . rw[hb]at hg
   cases hg;rw[Ag hb];exact hc
theorem sr {P:Program} {tab:bB}:∀g C,(none:Option aN)=some C->cE P tab g C:=fun _ _ h=>by cases h
end
section
universe u v
variable [Inhabited aL]
inductive Rd (w:World) (p:Nat->Prop) (arg:Bool):SV->Value->Prop
 |bool (b:Bool):Rd w p arg (.bool b) (.bool b)
 |int (k:IntKind) (n:Int):Rd w p arg (.int k n) (.int k n)
 |str (s:List UInt8):Rd w p arg (.str s) (.string ⟨s.toArray⟩)
 |bo:Rd w p arg .bo (.pointer none)
 |wp (a:Addr):Rd w p arg (.wp a) (.pointer (some a))
 |nils:Rd w p arg .nils (.slice none 0 0)
 |bF:Rd w p arg .bF (.map none)
 |bL:Rd w p arg .bL .nilFunc
 |any (v:Value):Rd w p arg .any v
 |fn {f:FuncId} {xs ys:List SV} (h:arg=true) (v:Value):Rd w p arg (.fn f xs ys) v
 |cH {cs:List SV} {off:Nat} (h:arg=true) (v:Value):Rd w p arg (.cH cs off) v
 |fN {X:Type} {L:List X} {enc:X->List SV} (h0:L.length=0):Rd w p arg (.ar X L enc) (.slice none 0 0)
 |bX {X:Type} {L:List X} {enc:X->List SV} (h:arg=true) (h0:L.length=0) (a:Option Addr) (c:Nat):Rd w p arg (.ar X L enc) (.slice a 0 c)
 |ar {X:Type} {L:List X} {enc:X->List SV} (b off cap:Nat) (arr:Array Value) (e:TypeId) (fz:Nat×Nat) (sz:Nat) (u:Nat->Nat->Value)
  (hp:p b) (hb:w.heap[b]? =some (.cells arr e fz)) (hs:0<sz) (hl:off+L.length*sz<=arr.size) (hn:∀(i:Nat) x,L[i]? =some x->(enc x).length=sz) (hc:L.length<=cap)
  (h1:∀(i:Nat) x (j:Nat) v,L[i]? =some x->(enc x)[j]? =some v->arr[off+i*sz+j]? =some (u i j)) (h2:∀(i:Nat) x (j:Nat) v,L[i]? =some x->(enc x)[j]? =some v->Rd w p arg v (u i j)):Rd w p arg (.ar X L enc) (.slice (some ⟨b,off,none⟩) L.length cap)
 |agg {cs:List SV} {vs:Array Value} (h1:cs.length=vs.size) (h2:∀(i:Nat) c v,cs[i]? =some c->vs[i]? =some v->Rd w p arg c v):Rd w p arg (.agg cs) (.agg vs)
 |bG {cs:List SV} {vs:Array Value} (h1:cs.length=vs.size) (h2:∀(i:Nat) c v,cs[i]? =some c->vs[i]? =some v->Rd w p arg c v):Rd w p arg (.bG cs) (.tuple vs)
def Hd (w:World) (p:Nat->Prop) (arg:Bool) (l:List SV) (m:List Value):Prop:=l.length=m.length/\ ∀(i:Nat) s v,l[i]? =some s->m[i]? =some v->Rd w p arg s v
theorem Jh {E:Env} {a:AH} {K:KS} {w:World} (H:bN E a K w) {Fz:Nat->Option AO} (hf:∀i o,Fz i=some o->a.get i=some o) {p:Nat->Prop} (hp:∀i o,Fz i=some o->p (E.bh i)) {s:SV} {v:AV} (h:aT Fz s v):Rd w p true s (af E v):=by
 induction h with
 |bool b=>exact .bool b
 |int k n=>exact .int k n
 |str s=>exact .str s
 |bo=>exact .bo
 |wp a=>exact .wp a
 |nils=>exact .nils
 |bF=>exact .bF
 |bL=>exact .bL
 |any v=>exact .any _
 |bX h0 hv=>
  rcases hv with rfl|⟨b,off,l,n,k,rfl⟩|⟨a,c,rfl⟩
  . exact .fN h0
  . exact .bX rfl h0 _ _
  . exact .bX rfl h0 _ _
 | @ar X L enc b off cap cs e sz ext bk u hb hs hl hn hc h1 h2 ih=>
  obtain⟨sz0,ext0,hb,hx0⟩:=hb;have hpb:=hp _ _ hb;obtain⟨arr,fz,hw,⟨rest,hr⟩,hsz⟩:∃arr fz,w.heap[E.bh b]? =some (.cells arr e fz)/\(∃rest,arr.toList=bA E cs++rest)/\(if ext0 then arr.size=E.cap b*sz0 else arr.size=cs.length):=by
    obtain⟨c,k1,arr,fz,rfl,k2,k3,_⟩:=H.obj _ _ (hf _ _ hb);exact⟨arr,fz,k1,k2,k3⟩
  have hle:cs.length<=arr.size:=by
    have:=Ap List.length hr;simp at this;omega
  simp only[af];refine .ar _ off _ arr e fz sz (fun i j=>af E (u i j)) hpb hw hs (by omega) hn ?_ ?_ ih
  . cases cap with
    |lit m=>exact hc
    |tail k=>
     obtain⟨g1,g2⟩:=hc;obtain⟨g3,g4⟩:=hx0 g1;rw[g4,if_pos rfl,g3]at hsz;rw[g2]at hl;have h5:(k+L.length)*sz<=E.cap b*sz:=by rw[BB];omega
     have:=Fa h5 hs;show L.length<=E.cap b - k
     omega
  . intro i x j v hx hv;have h3:=h1 i x j v hx hv;rw[<-A6,hr];have hlt:off+i*sz+j<(bA E cs).length:=by
     simp;exact(Ab.1 h3).1
    rw[A3 hlt,kI,h3];rfl
 |cH b base ca e sz ext bk u hb hl h1 _ ih=>exact .cH rfl _
 |fn h1 h2 _ _ ih3 ih4=>exact .fn rfl _
 | @agg cs vs h1 _ ih=>
  simp only[af];refine .agg (by simpa using h1) (fun i c v hc hv=>?_);simp only[AW,kI]at hv;obtain⟨u,hu,rfl⟩:=As.1 hv;exact ih i c u hc hu
 | @bG cs vs h1 _ ih=>
  simp only[af];refine .bG (by simpa using h1) (fun i c v hc hv=>?_);simp only[AW,kI]at hv;obtain⟨u,hu,rfl⟩:=As.1 hv;exact ih i c u hc hu
theorem ur {E:Env} {a:AH} {K:KS} {w:World} (H:bN E a K w) {Fz:Nat->Option AO} (hf:∀i o,Fz i=some o->a.get i=some o) {s:SV} {v:AV} (h:aT Fz s v):Rd w (fun _=>True) true s (af E v):=Jh H hf (fun _ _ _=>trivial) h
def fS (n m lo:Nat):Value->AV
 | .bool b=> .bool b
 | .int k z=> .int k z
 | .string s=> .str s.data.toList
 | .pointer none=> .bo
 | .slice none 0 0=> .nils
 | .slice (some ⟨b,off,none⟩) (len+1) cap=>if n<=b/\b<m then .sl (lo+(b - n)) off (len+1) (.lit cap)else .raw (.slice (some ⟨b,off,none⟩) (len+1) cap)
 | .map none=> .bF
 | .nilFunc=> .bL
 |v=> .raw v
theorem Kn {n m lo:Nat} {E:Env} (hE:∀b,n<=b->b<m->E.bh (lo+(b - n))=b) (v:Value):af E (fS n m lo v)=v:=by
 unfold fS;split<;>try (simp[af];done)
 split
 . rename_i b off len cap hb;simp[af,hE _ hb.1 hb.2,gi.val]
 . simp[af]
theorem Tp {n m lo:Nat} {E:Env} (hE:∀b,n<=b->b<m->E.bh (lo+(b - n))=b) (l:List Value):bA E (l.map (fS n m lo))=l:=by
 induction l with
 |nil=>rfl
 |cons v l ih=>simp[Kn hE,ih]
def SV.atom:SV->Bool
 | .agg _=>false
 | .bG _=>false
 |_=>true
inductive Up (w:World) (n:Nat):SV->Value->Prop
 |bool (b:Bool):Up w n (.bool b) (.bool b)
 |int (k:IntKind) (z:Int):Up w n (.int k z) (.int k z)
 |str (s:List UInt8):Up w n (.str s) (.string ⟨s.toArray⟩)
 |bo:Up w n .bo (.pointer none)
 |nils:Up w n .nils (.slice none 0 0)
 |bF:Up w n .bF (.map none)
 |bL:Up w n .bL .nilFunc
 |any (v:Value):Up w n .any v
 |fN {X:Type} {L:List X} {enc:X->List SV} (h0:L.length=0):Up w n (.ar X L enc) (.slice none 0 0)
 |bX {X:Type} {L:List X} {enc:X->List SV} (h0:L.length=0) (a:Option Addr) (c:Nat):Up w n (.ar X L enc) (.slice a 0 c)
 |ar {X:Type} {L:List X} {enc:X->List SV} (b off cap:Nat) (arr:Array Value) (e:TypeId) (fz:Nat×Nat) (sz:Nat) (u:Nat->Nat->Value)
  (hp:n<=b) (hb:w.heap[b]? =some (.cells arr e fz)) (hs:0<sz) (hl:off+L.length*sz<=arr.size) (hn:∀(i:Nat) x,L[i]? =some x->(enc x).length=sz) (hc:L.length<=cap)
  (ha:∀(i:Nat) x (j:Nat) v,L[i]? =some x->(enc x)[j]? =some v->v.atom=true)
  (h1:∀(i:Nat) x (j:Nat) v,L[i]? =some x->(enc x)[j]? =some v->arr[off+i*sz+j]? =some (u i j)) (h2:∀(i:Nat) x (j:Nat) v,L[i]? =some x->(enc x)[j]? =some v->Up w n v (u i j)):Up w n (.ar X L enc) (.slice (some ⟨b,off,none⟩) L.length cap)
 |agg {cs:List SV} {vs:Array Value} (h1:cs.length=vs.size) (h2:∀(i:Nat) c v,cs[i]? =some c->vs[i]? =some v->Up w n c v):Up w n (.agg cs) (.agg vs)
 |bG {cs:List SV} {vs:Array Value} (h1:cs.length=vs.size) (h2:∀(i:Nat) c v,cs[i]? =some c->vs[i]? =some v->Up w n c v):Up w n (.bG cs) (.tuple vs)
def jg (a:AH) (n:Nat) (w:World):AH:=ofFn (a.next+(w.heap.size - n)) fun i=>if i<a.next then a.get i else
 match w.heap[n+(i - a.next)]? with
 |some (.cells arr e _)=>some (.cells (arr.toList.map (fS n w.heap.size a.next)) e 1 false .cold)
 |_=>none
theorem oM {a:AH} {n:Nat} {w:World} {i:Nat} (hi:i<a.next):(jg a n w).get i=a.get i:=by
 unfold jg;rw[qA,if_pos (by omega),if_pos hi]
theorem Lt {a:AH} {n:Nat} {w:World} {i:Nat} {o:AO} (hi:a.next<=i) (h:(jg a n w).get i=some o):
   ∃arr e fz,w.heap[n+(i - a.next)]? =some (.cells arr e fz)/\o= .cells (arr.toList.map (fS n w.heap.size a.next)) e 1 false .cold:=by
 unfold jg at h;rw[qA]at h;split at h
 . rw[if_neg (by omega)]at h;split at h
   . rename_i arr e fz hb
     cases h;exact⟨arr,e,fz,hb,rfl⟩
   . cases h
 . cases h
theorem VR {a:AH} {n:Nat} {w:World} {b:Nat} {arr:Array Value} {e:TypeId} {fz:Nat×Nat} (hb:n<=b) (h:w.heap[b]? =some (.cells arr e fz)):
  (jg a n w).get (a.next+(b - n))=some (.cells (arr.toList.map (fS n w.heap.size a.next)) e 1 false .cold):=by
 have hlt:=(Ae.1 h).1;unfold jg;rw[qA,if_pos (by omega),if_neg (by omega),show n+(a.next+(b - n) - a.next)=b from by omega,h]
theorem KD {n m lo:Nat} {Fz:Nat->Option AO} {X:Type} {L:List X} {enc:X->List SV} (h0:L.length=0) (p:Option Addr) (c:Nat):aT Fz (.ar X L enc) (fS n m lo (.slice p 0 c)):=by
 have:fS n m lo (.slice p 0 c)= .nils\/fS n m lo (.slice p 0 c)= .raw (.slice p 0 c):=by
   unfold fS;split<;>simp_all
 rcases this with h|h
 . rw[h];exact .bX h0 (.inl rfl)
 . rw[h];exact .bX h0 (.inr (.inr ⟨_,_,rfl⟩))
theorem Ou {a:AH} {n:Nat} {w:World} {Fz:Nat->Option AO} (hF:∀i o,a.next<=i->(jg a n w).get i=some o->Fz i=some o) {s:SV} {v:Value} (h:Up w n s v):
  (s.atom=true->aT Fz s (fS n w.heap.size a.next v))/\ ∃av,aT Fz s av/\ ∀E:Env,(∀b,n<=b->b<w.heap.size->E.bh (a.next+(b - n))=b)->af E av=v:=by
 have key:∀{s:SV} {v:Value},aT Fz s (fS n w.heap.size a.next v)->(s.atom=true->aT Fz s (fS n w.heap.size a.next v))/\ ∃av,aT Fz s av/\ ∀E:Env,(∀b,n<=b->b<w.heap.size->E.bh (a.next+(b - n))=b)->af E av=v:=
  fun{s v} h=>⟨fun _=>h,_,h,fun E hE=>Kn hE v⟩
 induction h with
 |bool b=>exact key (.bool b)
 |int k z=>exact key (.int k z)
 |str s=>exact key (by simp only[fS];exact .str s)
 |bo=>exact key .bo
 |nils=>exact key .nils
 |bF=>exact key .bF
 |bL=>exact key .bL
 |any v=>exact key (.any _)
 |fN h0=>exact key (.bX h0 (.inl rfl))
 |bX h0 p c=>exact key (KD h0 p c)
 | @ar X L enc b off cap arr e fz sz u hp hb hs hl hn hc ha h1 h2 ih=>
  apply key;have hlt:=(Ae.1 hb).1;by_cases hL:L.length=0
  . rw[hL];exact KD hL _ _
  obtain⟨len,hlen⟩:∃k,L.length=k+1:=⟨L.length - 1,by omega⟩;rw[hlen];simp only[fS];rw[if_pos ⟨hp,hlt⟩,<-hlen];refine .ar _ off (.lit cap) _ e sz false .cold (fun i j=>fS n w.heap.size a.next (u i j)) ⟨1,false,hF _ _ (by omega) (VR hp hb),fun h=>by cases h⟩ hs (by simpa using hl) hn hc ?_ ?_
  . intro i x j v hx hv;have h3:=h1 i x j v hx hv;rw[Az,A6,h3];rfl
  . intro i x j v hx hv;exact(ih i x j v hx hv).1 (ha i x j v hx hv)
 | @agg cs vs h1 h2 ih=>
  refine⟨fun h=>(by cases h),?_⟩;have hc:∀i:Nat,∃av,∀c v,cs[i]? =some c->vs[i]? =some v->aT Fz c av/\ ∀E:Env,(∀b,n<=b->b<w.heap.size->E.bh (a.next+(b - n))=b)->af E av=v:=by
    intro i
    cases hi:cs[i]? with
    |none=>exact⟨.bo,fun c v h=>by cases h⟩
    | some c=>
      cases hj:vs[i]? with
      |none=>exact⟨.bo,fun c v _ h=>by cases h⟩
      |some v=>
       obtain⟨_,av,g1,g2⟩:=ih i c v hi hj;exact⟨av,fun c' v' e1 e2=>by cases e1;cases e2;exact⟨g1,g2⟩⟩
  obtain⟨f,hf⟩:=Fp hc;refine⟨.agg ((List.range vs.size).map f), .agg (by simp[h1]) fun i c v hi hv=>?_,fun E hE=>?_⟩
  . have hi2:i<vs.size:=by rw[<-h1];exact(Ab.1 hi).1
    rw[Az,Ea hi2]at hv
    cases hv;exact(hf i c _ hi (A7 hi2)).1
  . simp only[af,Value.agg.injEq];apply Db
    intro i;rw[AW,kI,Az];by_cases hi:i<vs.size
    . have hi2:i<cs.length:=by omega
      rw[Ea hi,A7 hi];simp only[A8];rw[(hf i _ _ (Af hi2) (A7 hi)).2 E hE]
    . rw[DA (by omega),Bq (by simp;omega)];rfl
 | @bG cs vs h1 h2 ih=>
  refine⟨fun h=>(by cases h),?_⟩;have hc:∀i:Nat,∃av,∀c v,cs[i]? =some c->vs[i]? =some v->aT Fz c av/\ ∀E:Env,(∀b,n<=b->b<w.heap.size->E.bh (a.next+(b - n))=b)->af E av=v:=by
    intro i
    cases hi:cs[i]? with
    |none=>exact⟨.bo,fun c v h=>by cases h⟩
    | some c=>
      cases hj:vs[i]? with
      |none=>exact⟨.bo,fun c v _ h=>by cases h⟩
      |some v=>
       obtain⟨_,av,g1,g2⟩:=ih i c v hi hj;exact⟨av,fun c' v' e1 e2=>by cases e1;cases e2;exact⟨g1,g2⟩⟩
  obtain⟨f,hf⟩:=Fp hc;refine⟨.bG ((List.range vs.size).map f), .bG (by simp[h1]) fun i c v hi hv=>?_,fun E hE=>?_⟩
  . have hi2:i<vs.size:=by rw[<-h1];exact(Ab.1 hi).1
    rw[Az,Ea hi2]at hv
    cases hv;exact(hf i c _ hi (A7 hi2)).1
  . simp only[af,Value.tuple.injEq];apply Db
    intro i;rw[AW,kI,Az];by_cases hi:i<vs.size
    . have hi2:i<cs.length:=by omega
      rw[Ea hi,A7 hi];simp only[A8];rw[(hf i _ _ (Af hi2) (A7 hi)).2 E hE]
    . rw[DA (by omega),Bq (by simp;omega)];rfl
theorem Uo {P:Program} {f:FuncId} {k:CallKind} {l m:List Value} (hl:l.length=m.length) (h:Frame.enter P f l.toArray k=Frame.enter P f m.toArray k):l=m:=by
 have h:=Ap (fun fr=>fr.tmps.toList.take l.length) h;simp only[Frame.enter]at h;simpa [hl]using h
section
variable {P:Program} {tab:bB}
theorem kD (ok:bU P tab) {f:FuncId} {C:aN} (h:∀y,C.pre y->∀(w:World) (args:List Value),dd w->Hd w (fun _=>True) true (C.args y) args->
     Calls P f args.toArray w (fun e w'=>∃v,e= .returned v/\((∃i:Nat,(C.args y)[i]? =some (C.res y)/\args[i]? =some v)\/Up w' w.heap.size (C.res y) v)/\Below w.heap.size w w'/\((default:aL).dr->w.drawn<=w'.drawn))):cE P tab f C:=by
 classical
 intro fn body hfn hb y hy Fz a avs hfz hwf hlen hav;intro D E K base frC csC w hR hB;have hP:=ok.fns f fn hfn;obtain⟨q1,q2,q3⟩:=hR.all E (ax.refl _ _);have hconst:∀E',ax D E E'->bA E' avs=bA E avs:=by
   intro E' he;obtain⟨_,p2,_⟩:=hR.all E' he;simp only at p2 q2;rw[<-mL hP hb]at p2 q2;exact Uo (by simp) (p2.trans q2.symm)
 have hargs:Hd w (fun _=>True) true (C.args y) (bA E avs):=by
   refine⟨by simpa using hlen,fun i s v hs hv=>?_⟩;rw[kI]at hv;obtain⟨av,hav',rfl⟩:=As.1 hv;exact ur q1 hfz (hav i s av hs hav')
 have hbc:base=csC:=q3;subst hbc;obtain⟨e,w',fr',⟨v,rfl,hv,hbel,hdr⟩,s1,s2,s3⟩:=h y hy w _ (fun b hb=>(hB b hb).2) hargs base;have hR0:frC=Frame.enter P f (bA E avs).toArray .normal:=by
   simp only at q2;rw[<-q2,mL hP hb]
 let n:=w.heap.size
 let h':=jg a n w'
 let Fz':Nat->Option AO:=fun i=>if i<a.next then Fz i else h'.get i
 let E':Env:=⟨fun i=>if i<a.next then E.bh i else n+(i - a.next),E.cap⟩
 let D':Nat->Prop:=fun i=>D i\/(a.next<=i/\i<a.next+(w'.heap.size - n))
 have hdom:∀i,D i->i<a.next:=hR.eN;have hsz:n<=w'.heap.size:=hbel.size;have hag:∀E'',ax D' E' E''->ax D E E'':=by
   intro E'' he i hi;have h1:=he i (.inl hi);simp only[E',if_pos (hdom i hi)]at h1;exact h1
 have hblk:∀E'',ax D' E' E''->∀i,a.next<=i->i<a.next+(w'.heap.size - n)->E''.bh i=n+(i - a.next):=by
   intro E'' he i h1 h2;have h3:=(he i (.inr ⟨h1,h2⟩)).1;simp only[E',if_neg (show ¬i<a.next by omega)]at h3;exact h3
 have hblk2:∀E'',ax D' E' E''->∀b,n<=b->b<w'.heap.size->E''.bh (a.next+(b - n))=b:=by
   intro E'' he b h1 h2;rw[hblk E'' he _ (by omega) (by omega)];omega
 have hnext:h'.next=a.next+(w'.heap.size - n):=rfl;have hdom':∀i o,h'.get i=some o->i<h'.next:=by
   intro i o hi;have hi:(jg a n w').get i=some o:=hi;unfold jg at hi;rw[qA]at hi;split at hi
   . rename_i hlt;exact hlt
   . cases hi
 have hH:∀E'',ax D' E' E''->bN E'' h' K w':=by
   intro E'' he;obtain⟨g1,_,_⟩:=hR.all E'' (hag E'' he);simp only at g1;refine⟨fun i o hi=>?_,fun i o hi hr=>?_,fun i j oi oj hi hj hr hij=>?_,hdom',fun b hb'=>AY (g1.kb b hb') hsz,fun i o hi hr=>?_,g1.k0⟩
   . by_cases hlt:i<a.next
     . rw[show h'.get i=a.get i from oM hlt]at hi;obtain⟨c,h1,h2⟩:=g1.obj i o hi;exact⟨c,by rw[hbel.block _ (Ae.1 h1).1];exact h1,h2⟩
     . obtain⟨arr,e,fz,hb2,rfl⟩:=Lt (by omega) hi;have hlt2:=hdom' i _ hi;refine⟨_,by rw[hblk E'' he i (by omega) (by omega)];exact hb2,arr,fz,rfl,⟨[],by simp[Tp (hblk2 E'' he)]⟩,by simp,trivial⟩
   . by_cases hlt:i<a.next
     . rw[show h'.get i=a.get i from oM hlt]at hi;exact g1.nk i o hi hr
     . have hlt2:=hdom' i _ hi;rw[hblk E'' he i (by omega) (by omega)];intro hk;have:=g1.kb _ hk;omega
   . have hin:∀k ok',h'.get k=some ok'->(k<a.next/\E''.bh k<n)\/(a.next<=k/\E''.bh k=n+(k - a.next)):=by
       intro k ok' hk;by_cases hlt:k<a.next
       . rw[show h'.get k=a.get k from oM hlt]at hk;obtain⟨c,h1,h2⟩:=g1.obj k ok' hk;exact .inl ⟨hlt,(Ae.1 h1).1⟩
       . have:=hdom' k _ hk;exact .inr ⟨by omega,hblk E'' he k (by omega) (by omega)⟩
     rcases hin i oi hi with⟨h1,h2⟩|⟨h1,h2⟩<;>rcases hin j oj hj with⟨h3,h4⟩|⟨h3,h4⟩
     . rw[show h'.get i=a.get i from oM h1]at hi;rw[show h'.get j=a.get j from oM h3]at hj;exact g1.inj i j oi oj hi hj hr hij
     all_goals omega
   . by_cases hlt:i<a.next
     . rw[show h'.get i=a.get i from oM hlt]at hi;exact g1.im i o hi hr
     . obtain⟨arr,e,fz,hb2,rfl⟩:=Lt (by omega) hi;exact hr.elim
 have hval:∃av,aT Fz' (C.res y) av/\ ∀E'',ax D' E' E''->af E'' av=v:=by
   rcases hv with⟨i,hi,hvi⟩|hv
   . rw[kI]at hvi;obtain⟨av,hav',rfl⟩:=As.1 hvi;refine⟨av,(hav i _ av hi hav').mono fun j o hj=>?_,fun E'' he=>?_⟩
     . have:j<a.next:=hwf j o (hfz j o hj);simp only[Fz',if_pos this];exact hj
     . have h1:=Ap (fun l=>l[i]?) (hconst E'' (hag E'' he));simp only[kI,hav',A8,AX]at h1;exact h1
   . obtain⟨_,av,g1,g2⟩:=Ou (a:=a) (n:=n) (w:=w') (Fz:=Fz') (fun i o hi ho=>by simp only[Fz',if_neg (show ¬i<a.next by omega)];exact ho) hv;exact⟨av,g1,fun E'' he=>g2 E'' (hblk2 E'' he)⟩
 obtain⟨av,hsim,hconc⟩:=hval;refine⟨av,h',⟨Fz',fun i o hi=>?_,fun i o hi=>?_,hsim,⟨by rw[hnext];exact Nat.le_add_right _ _,fun i o hi=>?_⟩,fun i o hi=>?_,hdom',fun i o hi=>?_⟩,fr',w',v,E',D',?_,s2,s3,fun E'' he=>⟨hH E'' he,hconc E'' he⟩,?_,fun i hi=> .inl hi,fun i hi=>?_,⟨hbel.os,hbel.tape,hbel.output,hbel.size,fun b hb'=>hbel.block b (q1.kb b hb'),hdr⟩,?_,fun i hi=>?_⟩
 . have:i<a.next:=hwf i o (hfz i o hi);simp only[Fz',if_pos this];exact hi
 . by_cases hlt:i<a.next
   . simp only[Fz',if_pos hlt]at hi;rw[show h'.get i=a.get i from oM hlt];exact hfz i o hi
   . simp only[Fz',if_neg hlt]at hi;exact hi
 . by_cases hlt:i<a.next
   . rw[show h'.get i=a.get i from oM hlt]at hi;exact .inl ⟨o,hi⟩
   . exact .inr (by omega)
 . rw[show h'.get i=a.get i from oM (hwf i o hi)];exact hi
 . by_cases hlt:i<a.next
   . simp only[Fz',if_pos hlt]at hi;exact .inl hi
   . exact .inr (by omega)
 . rw[hR0];exact s1
 . intro i hi;exact⟨if_pos (hdom i hi),rfl⟩
 . rcases hi with hi|⟨_,hi⟩
   . have:=hdom i hi;rw[hnext];omega
   . exact hi
 . show a.next<=h'.next
   rw[hnext];exact Nat.le_add_right _ _
 . rcases hi with hi|⟨hi,_⟩
   . exact .inl hi
   . exact .inr hi
theorem lV (ok:bU P tab) {f:FuncId} {C:aN} (hc:cE P tab f C) {fn:Func} {body:Code} (hfn:tab.fns.get f=some fn) (hb:fn.body=some body) {y:C.Y} (hy:C.pre y) {args:List Value} {w:World}
  (hs:PL (bT tab w).get (C.args y) (args.map (dB w.heap.size))) (hw:dd w):Calls P f args.toArray w (fun e w'=>∃v,e= .returned v/\Rd w' (fun _=>True) true (C.res y) v/\Below w.heap.size w w'/\((default:aL).dr->w.drawn<=w'.drawn)):=by
 intro cs;have hP:=ok.fns f fn hfn;have hdom:∀i o,(bT tab w).get i=some o->i<(bT tab w).next:=fun i o hi=>(oR tab w (E:=⟨fun i=>i,fun _=>0⟩) (fun _ _=>rfl)).eN i o hi
 let E:Env:=⟨fun i=>i,fun _=>0⟩
 let D:Nat->Prop:=fun i=>i<w.heap.size
 have hag:∀E',ax D E E'->∀i,i<w.heap.size->E'.bh i=i:=fun E' he i hi=>(he i hi).1
 have hR:Rel D E (KS.old w.heap.size) {fr:=ai.enter fn f body (args.map (dB w.heap.size)) .normal,cs:=[],h:=bT tab w} cs (Frame.enter P f args.toArray .normal) cs w:=by
  refine⟨fun E' he=>⟨oR tab w (hag E' he),?_,rfl⟩,fun i h=>h,qq _ _ _ _ _,fun f hf=>by cases hf⟩;rw[<-mL hP hb,wk (hag E' he)]
 obtain⟨v,h',⟨Fz',_,f2,hsim,_⟩,fr',w',v',E',D',s1,s2,s3,s4,s5,s6,s7,s8,s9,s10⟩:=hc fn body hfn hb y hy (bT tab w).get (bT tab w) _ (fun _ _ h=>h) hdom hs.1 hs.2 D E _ cs _ cs w hR hw.kY;obtain⟨g1,g2⟩:=s4 E' (ax.refl _ _);subst g2;exact⟨.returned (af E' v),w',fr',⟨_,rfl,ur g1 f2 hsim,⟨s8.os,s8.tape,s8.output,s8.size,s8.block⟩,s8.drawn⟩,s1,s2,s3⟩
theorem OM (ok:bU P tab) {f:FuncId} {C:aN} (hc:cE P tab f C) {fn:Func} {body:Code} (hfn:tab.fns.get f=some fn) (hb:fn.body=some body) {y:C.Y} (hy:C.pre y) {args:List Value} {w:World}
   (hs:PL (fun _=>none) (C.args y) (args.map (dB 0))) (hw:dd w):Calls P f args.toArray w (fun e w'=>∃v,e= .returned v/\Rd w' (fun b=>w.heap.size<=b) true (C.res y) v/\Below w.heap.size w w'/\((default:aL).dr->w.drawn<=w'.drawn)):=by
 intro cs;have hP:=ok.fns f fn hfn;let E:Env:=⟨fun i=>i,fun _=>0⟩
 let K:KS:=⟨fun b=>b<w.heap.size,0⟩
 have hR:Rel (fun _=>False) E K {fr:=ai.enter fn f body (args.map (dB 0)) .normal,cs:=[],h:=fB} cs (Frame.enter P f args.toArray .normal) cs w:=by
   refine⟨fun E' _=>⟨LX E' K w (fun b h=>h) (fun b h=>absurd h (Be _)),?_,rfl⟩,fun i h=>h.elim,qq _ _ _ _ _,fun f hf=>by cases hf⟩;rw[<-mL hP hb,wk (fun i hi=>absurd hi (Be _))]
 obtain⟨v,h',⟨Fz',_,f2,hsim,_,_,_,f3⟩,fr',w',v',E',D',s1,s2,s3,s4,s5,s6,s7,s8,s9,s10⟩:=hc fn body hfn hb y hy (fun _=>none) fB _ (fun _ _ h=>by cases h) (fun _ _ h=>by cases h) hs.1 hs.2 _ E K cs _ cs w hR (fun b hb=>⟨hw.lt hb,hw b hb⟩);obtain⟨g1,g2⟩:=s4 E' (ax.refl _ _);subst g2;refine⟨.returned (af E' v),w',fr',⟨_,rfl,Jh g1 f2 (fun i o hi=>?_) hsim,⟨s8.os,s8.tape,s8.output,s8.size,s8.block⟩,s8.drawn⟩,s1,s2,s3⟩;have ho:=f2 i o hi;by_cases hro:o.ro
 . exact absurd (g1.im i o ho hro) (Be _)
 . exact E8.1 (g1.nk i o ho hro)
end
end
section
universe u v
variable [Inhabited aL]
def NU (X:Type) (L:List X) (enc:X->List SV) (v:SV) (s:St):Prop:=
 match v with
 | .own p=>match s.h.get p with
  |some (.arr X' L' enc' _)=>SV.ar X' L' enc'=SV.ar X L enc
  |_=>False
 |_=>False
def p5 {Y:Type} (pre:Y->Prop) (args:Y->List SV) (X:Type) (L:Y->List X) (enc:X->List SV) (cfg:Y->iL) (n:Nat) (f:FuncId):Prop:=∀y,pre y->ask (cfg y) n f (args y) (NU X (L y) enc)
def qL (w:World) (n:Nat) {X:Type} (L:List X) (enc:X->List SV) (v:Value):Prop:=
 (v= .slice none 0 0/\L.length=0)\/ ∃b cap arr e fz sz,v= .slice (some ⟨b,0,none⟩) L.length cap/\n<=b/\w.heap[b]? =some (.cells arr e fz)/\L.length<=cap/\0<sz/\L.length*sz<=arr.size/\(∀(i:Nat) x,L[i]? =some x->(enc x).length=sz)/\
  ∀(i:Nat) x (j:Nat) s,L[i]? =some x->(enc x)[j]? =some s->∃u,arr[i*sz+j]? =some u/\Rd w (fun _=>True) true s u
section
variable {P:Program} {tab:bB}
theorem Ts (pr:gj P tab) {Y:Type} {pre:Y->Prop} {argsS:Y->List SV} {X:Type} {L:Y->List X} {enc:X->List SV} {cfg:Y->iL} (htab:∀y,(cfg y).tab=tab) (hcon:∀y g C,(cfg y).gP g=some C->cE P tab g C) {n:Nat} {f:FuncId} {fn:Func}
   (hfn:tab.fns.get f=some fn) (h:p5 pre argsS X L enc cfg n f) {y:Y} (hy:pre y) {args:List Value} {w:World} (hs:PL (bT tab w).get (argsS y) (args.map (dB w.heap.size))) (hw:dd w):
   Calls P f args.toArray w (fun e w'=>∃v,e= .returned v/\qL w' w.heap.size (L y) enc v/\Below w.heap.size w w'/\((default:aL).dr->w.drawn<=w'.drawn)):=by
 have h:=h y hy;unfold ask at h;rw[htab,hfn]at h;simp only at h
 cases hb:fn.body with
 |none=>rw[hb]at h;exact h.elim
 |some body=>
 rw[hb]at h;simp only at h;have hdom:∀i o,(bT tab w).get i=some o->i<(bT tab w).next:=fun i o hi=>(oR tab w (E:=⟨fun i=>i,fun _=>0⟩) (fun _ _=>rfl)).eN i o hi
 have hgo:=HX pr (htab y) (hcon y) n f fn body (argsS y) ⟨0,[]⟩ (bT tab w) ⟨fun _=>none,(bT tab w).get⟩ (args.map (dB w.heap.size)) _ hfn hb h
   ⟨fun p o hp=>(by simp[SH.get,look]at hp),fun p q o o' I J hp=>(by simp[SH.get,look]at hp),fun i o hi=>hi,fun p o I hp=>(by simp[SH.get,look]at hp),fun p I hp=>(by cases hp),hdom⟩ ⟨hs.1,fun i s v hs' hv=> .pure (hs.2 i s v hs' hv)⟩
 intro cs;have hP:=pr.ok.fns f fn hfn;let E:Env:=⟨fun i=>i,fun _=>0⟩
 let D:Nat->Prop:=fun i=>i<w.heap.size
 have hag:∀E',ax D E E'->∀i,i<w.heap.size->E'.bh i=i:=fun E' he i hi=>(he i hi).1
 have hR:Rel D E (KS.old w.heap.size) {fr:=ai.enter fn f body (args.map (dB w.heap.size)) .normal,cs:=[],h:=bT tab w} cs (Frame.enter P f args.toArray .normal) cs w:=by
   refine⟨fun E' he=>⟨oR tab w (hag E' he),?_,rfl⟩,fun i h=>h,qq _ _ _ _ _,fun f hf=>by cases hf⟩;rw[<-mL hP hb,wk (hag E' he)]
 obtain⟨v,h',⟨sv,s',C',hq,hsv,hH,_⟩,fr',w',v',E',D',s1,s2,s3,s4,s5,s6,s7,s8,s9,s10⟩:=hgo D E _ cs _ cs w hR hw.kY;obtain⟨g1,g2⟩:=s4 E' (ax.refl _ _);subst g2;refine⟨.returned (af E' v),w',fr',⟨_,rfl,?_,⟨s8.os,s8.tape,s8.output,s8.size,s8.block⟩,s8.drawn⟩,s1,s2,s3⟩;unfold NU at hq;split at hq
 . rename_i p;split at hq
   . rename_i X' L' enc' e' hp;obtain⟨I,hI,hO⟩:=hH.obj _ _ hp
     cases hq;simp only[eB]at hO;obtain⟨o1,o2,o3,o4,o5⟩:=hO
     cases hsv with
     |pure h=>cases h
     |eK h hc=>
      rw[hI]at h;cases h;rw[hc]at o5;exact .inl ⟨rfl,o5⟩
     |own h hc=>
      rename_i c;rw[hI]at h;cases h;rw[hc]at o5;obtain⟨ca,ext,bk,k1,⟨k2,_⟩,k3,k4,k5⟩:=o5;obtain⟨arr,fz,hw,⟨rest,hr⟩,hx,_⟩:∃arr fz,w'.heap[E'.bh I.β]? =some (.cells arr e' fz)/\(∃rest,arr.toList=bA E' ca++rest)/\(if ext then arr.size=E'.cap I.β*I.sz else arr.size=ca.length)/\True:=by
        obtain⟨c,h1,arr,fz,rfl,h2,h3,_⟩:=g1.obj _ _ k1;exact⟨arr,fz,h1,h2,h3,trivial⟩
      have hro:¬AO.ro (.cells ca e' I.sz ext bk):=by cases bk<;>simp_all[AO.ro]
      have hnew:¬(E'.bh I.β<w.heap.size):=g1.nk _ _ k1 hro;have hlen:ca.length<=arr.size:=by
        have:=Ap List.length hr;simp at this;omega
      refine .inr ⟨E'.bh I.β,c.val (E'.cap I.β),arr,e',fz,I.sz,?_,by omega,hw,?_,o2,by rw[<-k3];exact hlen,o4,fun i x j s hx' hs'=>?_⟩
      . simp only[af];rw[o3]
      . rcases k4 with⟨rfl,he⟩|⟨rfl,h0⟩
        . subst he;simp only[if_true]at hx;simp only[gi.val,Dc];rw[k3,hx]at hlen;exact Fa hlen o2
        . omega
      . obtain⟨u,hu,hsu⟩:=k5 i x j s hx' hs';refine⟨af E' u,?_,ur g1 hH.fz hsu⟩;rw[<-A6,hr,A3 (by simp;exact(Ab.1 hu).1),kI,hu];rfl
   . exact hq.elim
 . exact hq.elim
end
end
section
universe u v
def fr0 (f:FuncId):Frame:={(default:Frame)with fn:=f,kind:= .normal}
def fm (P:Program) (f:FuncId) (l:List Item) (a:Act) (w:World) (R:Ending->World->Prop):Prop:=
 ∀cs,∃e w' fr,R e w'/\Comes P (lone ((fr0 f).at a l) cs w) (lone fr cs w') e/\fr.fn=f/\fr.leaving P w' e
theorem IE {P:Program} {f:FuncId} {fn:Func} {c:Code} {args:Array Value} {w:World} {R:Ending->World->Prop} (hf:P.funcs[f]? =some fn) (hb:fn.body=some c)
  (h:fm P f [.code c] {tmps:=args++Array.replicate (fn.ntmps - args.size) undef,defers:=[]} w R):Calls P f args w R:=by
 intro cs;have henter:Frame.enter P f args .normal=(fr0 f).at {tmps:=args++Array.replicate (fn.ntmps - args.size) undef,defers:=[]} [.code c]:=by
  simp[Frame.enter,Frame.at,hf,hb,fr0]
 rw[henter];exact h cs
theorem fm.steps {P:Program} {f:FuncId} {l l':List Item} {a a':Act} {w w':World} {R:Ending->World->Prop} (hs:∀cs,Steps P (lone ((fr0 f).at a l) cs w) (lone ((fr0 f).at a' l') cs w')) (h:fm P f l' a' w' R):fm P f l a w R:=by
 intro cs;obtain⟨e,w2,fr,h1,h2,h3⟩:=h cs;exact⟨e,w2,fr,h1,Comes.of_steps (hs cs) h2,h3⟩
def FT (P:Program) (f:FuncId) (fn:Func) (l:List Item) (R:Ending->World->Prop):Exit->Act->World->Prop
 | .normal,a,w=>fm P f l a w R
 | .ret,a,w=>a.defers=[]/\ ∃v,(results fn a.tmps).run P w= .ok v w/\R (.returned v) w
 |_,_,_=>False
theorem fm.code {P:Program} {f:FuncId} {fn:Func} {c:Code} {l:List Item} {a:Act} {w:World} {R:Ending->World->Prop} (hf:P.funcs[f]? =some fn) (h:c.wp P (FT P f fn l R) a w):fm P f (.code c::l) a w R:=by
 intro cs;obtain⟨e,a',w',hq,harr⟩:=h (fr0 f) l cs
 cases e with
 |normal=>
  obtain⟨e,w2,fr,h1,h2,h3⟩:=hq cs;exact⟨e,w2,fr,h1,Comes.of_steps harr h2,h3⟩
 |ret=>
  obtain⟨hd,v,hr,hR⟩:=hq;obtain⟨todo,hs⟩:=harr;exact⟨.returned v,w',_,hR,hs,rfl,rfl,hd,rfl,fn,hf,hr⟩
 |panic chain=>exact hq.elim
 |exit id=>exact hq.elim
 |goto l=>exact hq.elim
 |outgrown=>exact hq.elim
theorem fm.seq {P:Program} {f:FuncId} {x y:Code} {l:List Item} {a:Act} {w:World} {R:Ending->World->Prop} (h:fm P f (.code x:: .code y::l) a w R):fm P f (.code (.seq x y)::l) a w R:=
 h.steps fun _=> .one step_seq
theorem fm.nil {P:Program} {f:FuncId} {fn:Func} {a:Act} {w:World} {R:Ending->World->Prop} (hf:P.funcs[f]? =some fn) (hd:a.defers=[]) {v:Value} (hr:(results fn a.tmps).run P w= .ok v w) (hR:R (.returned v) w):fm P f [] a w R:=
 fun cs=>⟨.returned v,w,_,hR, .one step_end,rfl,rfl,hd,rfl,fn,hf,hr⟩
theorem fm.next {P:Program} {f:FuncId} {fn:Func} {x y:Code} {l:List Item} {a:Act} {w:World} {R:Ending->World->Prop} (hf:P.funcs[f]? =some fn) (h:x.wp P (FT P f fn (.code y::l) R) a w):fm P f (.code (.seq x y)::l) a w R:=
 .seq (.code hf h)
variable [Inhabited aL]
section
variable {P:Program} {tab:bB} {cfg:iL}
def fa (tab:bB) (w:World) (tmps:Array Value) (ts:Fr):Prop:=∃avs:List AV,avs.length=tmps.size/\(∀E:Env,(∀i,i<w.heap.size->E.bh i=i)->bA E avs=tmps.toList)/\ ∀t s,look ts t=some s->∃av,avs[t]? =some av/\aM ⟨fun _=>none,(bT tab w).get⟩ s av
theorem fa.nil {w:World} {tmps:Array Value}:fa tab w tmps []:=⟨tmps.toList.map (dB w.heap.size),by simp,fun E hE=>wk hE _,fun t s h=>by cases h⟩
theorem fa.put {w:World} {tmps:Array Value} {ts:Fr} {t:Nat} {s:SV} {v:Value} {av:AV} (h1:tmps[t]? =some v) (hc:∀E:Env,(∀i,i<w.heap.size->E.bh i=i)->af E av=v) (h2:aT (bT tab w).get s av) (h:fa tab w tmps ts):fa tab w tmps ((t,s)::ts):=by
 obtain⟨avs,k0,k1,k2⟩:=h;have ht:t<avs.length:=by rw[k0];exact(Ae.1 h1).1
 refine⟨avs.set t av,by simpa using k0,fun E hE=>?_,fun t' s' hl=>?_⟩
 . apply Dg
   intro j;have k:=Ap (fun l=>l[j]?) (k1 E hE);simp only[kI]at k⊢;rw[Eu];by_cases e:t=j
   . subst e;rw[if_pos rfl,if_pos ht,A6,h1];simp[hc E hE]
   . rw[if_neg e];exact k
 . rw[kJ]at hl;rw[Eu];by_cases e:t'=t
   . subst e;rw[if_pos rfl]at hl
     cases hl;exact⟨av,by rw[if_pos rfl,if_pos ht], .pure h2⟩
   . rw[if_neg e]at hl;obtain⟨av',h3,h4⟩:=k2 t' s' hl;exact⟨av',by rw[if_neg (fun h=>e h.symm)];exact h3,h4⟩
theorem fa.cons {w:World} {tmps:Array Value} {ts:Fr} {t:Nat} {s:SV} {v:Value} (h1:tmps[t]? =some v) (h2:aT (bT tab w).get s (dB w.heap.size v)) (h:fa tab w tmps ts):fa tab w tmps ((t,s)::ts):=
 h.put h1 (fun E hE=>zV hE v) h2
theorem QW (pr:gj P tab) (htab:cfg.tab=tab) (hcon:∀g C,cfg.gP g=some C->cE P tab g C) {n:Nat} {f:FuncId} {c:Code} {a:Act} {w:World} {Q:SV->St->Prop} {Θ:Value->Prop} {ts:Fr} (hd:a.defers=[])
  (h:wp cfg n ⟨f,a.tmps.size,0,[.code c],⟨ts,⟨0,[]⟩,[]⟩⟩ Q) (hs:fa tab w a.tmps ts) (hQ:∀sv s,Q sv s->∀C av E,aM C sv av->Θ (af E av)) (hw:dd w):
  fm P f [.code c] a w (fun e w'=>(∃v,Θ v/\e= .returned v)/\Below w.heap.size w w'):=by
 obtain⟨avs,a0,a1,a2⟩:=hs;intro cs;let E:Env:=⟨fun i=>i,fun _=>0⟩
 let D:Nat->Prop:=fun i=>i<w.heap.size
 let fr:ai:={fn:=f,nt:=a.tmps.size,tmps:=T.ofList avs,todo:=[.code c],defers:=[],mode:= .run,kind:= .normal,round:=none}
 have hdom:∀i o,(bT tab w).get i=some o->i<(bT tab w).next:=fun i o hi=>(oR tab w (E:=E) (fun _ _=>rfl)).eN i o hi
 have hgo:eW P {fr,cs:=[],h:=bT tab w} _:=(MI pr htab hcon (fun _ hrec=>LW htab hrec hcon) n).2 f a.tmps.size 0 [.code c] ⟨ts,⟨0,[]⟩,[]⟩ Q ⟨fun _=>none,(bT tab w).get⟩ ⟨0,[]⟩ (bT tab w) (fun p I hp=>by cases hp) (fun p o hp=>by simp[SH.get,look]at hp)
  fr (bT tab w) h ⟨rfl,rfl,rfl,rfl,rfl,rfl⟩ (.code c .nil) ⟨⟨fun _=>none,(bT tab w).get⟩,fun t s hl=>by
    obtain⟨v,h1,h2⟩:=a2 t s hl;show aM _ s (((T.ofList avs).get t).getD (.bG []))
    rw[lU,h1];exact h2,⟨fun p o hp=>(by simp[SH.get,look]at hp),fun p q o o' I J hp=>(by simp[SH.get,look]at hp),fun i o hi=>hi,fun p o I hp=>(by simp[SH.get,look]at hp),fun p I hp=>(by cases hp),hdom⟩,Tr.refl _,Grow.refl _,dw.same _ _ _ _⟩
 have hag:∀E',ax D E E'->∀i,i<w.heap.size->E'.bh i=i:=fun E' he i hi=>(he i hi).1
 have hconc:∀E',ax D E E'->bD E' fr=(fr0 f).at a [.code c]:=by
  intro E' he;have k1:=a1 E' (hag E' he);obtain⟨tm,df⟩:=a
  cases hd;unfold bD Frame.at fr0;simp only[fr,AR,Eg,eA,fG,Da];congr 1
  apply Db
  intro j;have k2:=Ap (fun l=>l[j]?) k1;simp only[kI,A6]at k2;rw[tmps_get?,lU,<-k2];by_cases hj:j<tm.size
  . rw[if_pos hj,Af (by rw[a0];exact hj)];simp
  . rw[if_neg hj,Bq (by rw[a0];show tm.size<=j;omega)];rfl
 have hR:Rel D E (KS.old w.heap.size) {fr,cs:=[],h:=bT tab w} cs ((fr0 f).at a [.code c]) cs w:=by
  refine⟨fun E' he=>⟨oR tab w (hag E' he),hconc E' he,rfl⟩,fun i h=>h,fun t ht=>?_,fun f hf=>by cases hf⟩;show(T.ofList avs).get t=none
  have ht:a.tmps.size<=t:=ht;rw[lU,Bq (by rw[a0];exact ht)]
 obtain⟨v,h',⟨sv,s',C',hq,hsv,_⟩,fr',w',v',E',D',s1,s2,s3,s4,s5,s6,s7,s8,s9,s10⟩:=hgo D E _ cs _ cs w hR hw.kY;obtain⟨_,g2⟩:=s4 E' (ax.refl _ _);subst g2;exact⟨.returned (af E' v),w',fr',⟨⟨_,hQ sv s' hq C' v E' hsv,rfl⟩,s8.os,s8.tape,s8.output,s8.size,s8.block⟩,s1,s2,s3⟩
theorem Ib (pr:gj P tab) (htab:cfg.tab=tab) (hcon:∀g C,cfg.gP g=some C->cE P tab g C) {n:Nat} {f:FuncId} {c:Code} {a:Act} {w:World} {ts:Fr} (hd:a.defers=[])
  (h:wp cfg n ⟨f,a.tmps.size,0,[.code c],⟨ts,⟨0,[]⟩,[]⟩⟩ vP) (hs:fa tab w a.tmps ts) (hw:dd w):
  fm P f [.code c] a w (fun e w'=>e= .returned (.bool true)/\Below w.heap.size w w'):=by
 have:=QW (Θ:=fun v=>v= .bool true) pr htab hcon hd h hs (fun sv s hq C av E hsv=>by
  unfold vP at hq;split at hq
  . rw[hq]at hsv;rw[mP hsv];rfl
  . exact hq.elim) hw
 intro cs;obtain⟨e,w',fr,⟨⟨v,rfl,he⟩,hb⟩,h2⟩:=this cs;exact⟨e,w',fr,⟨he,hb⟩,h2⟩
end
end
end Go.Sy
namespace Go.Proofs
open Go Go.Am Go.RowKit Go.Sy
abbrev Bs:=List UInt8
def nB (b:UInt8):Int:=Int.ofNat b.toNat
def aU (s:Bs):List SV:=[.str s]
def cN (s:Bs) (c:Int):Option Nat:=s.findIdx? (fun b=>nB b==c)
def iG (s:Bs) (c:Int):Int:=match cN s c with|some i=>(i:Int)|none=> -1
def dW (s:Bs) (c:Int):Bs×Bs×Bool:=match cN s c with|some i=>(s.take i,s.drop (i+1),true)|none=>(s,[],false)
def aW:Bs->Int->List Bs
 |[],_=>[[]]
 |b::s,c=>if nB b=c then[]::aW s c else match aW s c with
  |h::t=>(b::h)::t
  |[]=>[[b]]
def dE (b:UInt8):Bool:=decide (48<=nB b)&&decide (nB b<=57)
def dv (s:Bs):Nat:=(s.takeWhile dE).length
def cm (n:Int) (b:UInt8):Int:=min (n*10+(nB b - 48)) 1099511627776
def cK (s:Bs):Bool:=match s with|b::_=>nB b==45|[]=>false
def ay (s:Bs):Bs:=if cK s then s.drop 1 else s
def bu (s:Bs):Int×Bool:=if ay s=[]\/dv (ay s)<(ay s).length then(0,false)else((if cK s then -1 else 1)*(ay s).foldl cm 0,true)
def lP:Nat->Nat->Bs
 |0,_=>[]
 |k+1,n=>if n<=9 then[UInt8.ofNat (48+n)]else lP k (n / 10)++[UInt8.ofNat (48+n % 10)]
def jO (n:Nat):Bs:=lP 40 n
def ir (b:UInt8):Bool:=(decide (97<=nB b)&&decide (nB b<=122))||(decide (48<=nB b)&&decide (nB b<=57))||nB b==45||nB b==95
def gF (c:Int) (e:Bool):Bool:=if c=45 then !e else(decide (97<=c)&&decide (c<=122))||(decide (48<=c)&&decide (c<=57))||c==95
def fh (s:Bs):Bool:=s !=[]&&decide (s.length<=63)&&s.all ir&&s.head? !=some 45&&s.getLast? !=some 45
def gT (p:Bs):Bool:=p !=[]&&decide (dv p=p.length)&&decide ((bu p).1<=255)&& !(decide (1<p.length)&&p.head? ==some 48)
def fK (s:Bs):Bool:=decide ((aW s 46).length=4)&&(aW s 46).all gT
def dm (b:UInt8):Bool:=(decide (48<=nB b)&&decide (nB b<=57))||(decide (97<=nB b)&&decide (nB b<=102))||nB b==58||nB b==46
def fx (s:Bs):Bool:=decide (4<=s.length)&&decide (s.length<=47)&&s.head? ==some 91&&s.getLast? ==some 93&&((s.drop 1).take (s.length - 2)).all dm
def il (s:Bs):Bool:=fK s||fx s
def eL (s:Bs):Bool:=decide (s.length<=256)&& !fK s&&(aW s 46).all fh
def gv (s:Bs):Bs×Bool×Bool:=if(s.take 2)=[42,46]then(s.drop 2,true,false)else if s.take 1=[33]then(s.drop 1,false,true)else(s,false,false)
def jG (s:Bs):Bool:=eL (gv s).1&&(!(gv s).2.2||decide (1<(aW (gv s).1 46).length))
theorem uX {a b:UInt8} (h:nB a=nB b):a=b:=by
 unfold nB at h;exact EA.1 (Int.ofNat.inj h)
theorem fv {s:Bs} {c:Int} {i:Nat}:cN s c=some i↔∃h:i<s.length,nB s[i]=c/\ ∀j (hj:j<i),nB (s[j]'(by omega))≠c:=by
 unfold cN;rw[EO];constructor
 . rintro⟨h,h1,h2⟩;exact⟨h,by simpa using h1,fun j hj=>by simpa using h2 j hj⟩
 . rintro⟨h,h1,h2⟩;exact⟨h,by simpa using h1,fun j hj=>by simpa using h2 j hj⟩
theorem jr {s:Bs} {c:Int}:cN s c=none↔∀j (hj:j<s.length),nB s[j]≠c:=by
 unfold cN;rw[List.findIdx?_eq_none_iff];constructor
 . intro h j hj;simpa using h s[j] (AJ hj)
 . intro h x hx;obtain⟨j,hj,rfl⟩:=Bn hx;simpa using h j hj
theorem KE (s:Bs) (c:Int):aW s c≠[]:=by
 cases s with
 |nil=>simp[aW]
 |cons b s=>
  simp only[aW];split
  . simp
  . split<;>simp
theorem wO (s:Bs) (c:Int):aW s c=match cN s c with|some i=>s.take i::aW (s.drop (i+1)) c|none=>[s]:=by
 induction s with
 |nil=>simp[aW,cN]
 |cons b s ih=>
  by_cases hb:nB b=c
  . simp[aW,cN,List.findIdx?_cons,hb]
  . have h2:cN (b::s) c=(cN s c).map (· +1):=by simp[cN,List.findIdx?_cons,hb]
    simp only[aW,if_neg hb,h2];rw[ih]
    cases hp:cN s c with
    |none=>simp
    |some i=>simp
theorem zQ (s:Bs) (c:Int):(aW s c).length<=s.length+1:=by
 induction s with
 |nil=>simp[aW]
 |cons b s ih=>
  simp only[aW];split
  . simp;omega
  . split
    . rename_i h t he;rw[he]at ih;simp at ih⊢;omega
    . simp
theorem Sw (s:Bs) (c:Int):∀p∈aW s c,p.length<=s.length:=by
 induction s with
 |nil=>simp[aW]
 |cons b s ih=>
  intro p hp;simp only[aW]at hp;split at hp
  . rcases Aj.1 hp with rfl|hp
    . simp
    . have:=ih p hp;simp;omega
  . split at hp
    . rename_i h t he;rw[he]at ih;rcases Aj.1 hp with rfl|hp
      . have:=ih h An;simp;omega
      . have:=ih p (Ao _ hp);simp;omega
    . simp at hp;subst hp;simp
theorem xq (s:Bs):dv s<=s.length:=(DZ _).length_le
theorem wM {s:Bs} (h:¬dv s<s.length):∀b∈s,dE b=true:=by
 have h1:dv s=s.length:=Nat.le_antisymm (xq s) (D5 h);unfold dv at h1;have h2:s.takeWhile dE=s:=List.IsPrefix.eq_of_length (DZ _) h1;intro b hb;rw[<-h2]at hb;exact AI.1 (List.all_takeWhile ..) b hb
theorem Kq {s:Bs} {j:Nat} (hj:j<dv s):∃h:j<s.length,dE s[j]=true:=by
 induction s generalizing j with
 |nil=>simp[dv]at hj
 |cons b s ih=>
  by_cases hb:dE b=true
  . have hd:dv (b::s)=dv s+1:=by simp[dv,BO,hb]
    cases j with
    |zero=>exact⟨by simp,by simpa using hb⟩
    |succ j=>
     obtain⟨h1,h2⟩:=ih (j:=j) (by omega);exact⟨by simpa using h1,by simpa using h2⟩
  . have hd:dv (b::s)=0:=by simp[dv,BO,hb]
    omega
theorem CP {s:Bs} (h:dv s<s.length):dE (s[dv s])=false:=by
 induction s with
 |nil=>simp at h
 |cons b s ih=>
  by_cases hb:dE b=true
  . have hd:dv (b::s)=dv s+1:=by simp[dv,BO,hb]
    simp only[hd,Fu];exact ih (by rw[hd]at h;simpa using h)
  . have hd:dv (b::s)=0:=by simp[dv,BO,hb]
    simp only[hd,Fs];exact Av.2 hb
theorem pA (b:UInt8):dE b=true↔48<=nB b/\nB b<=57:=by simp[dE]
theorem Sa {n:Int} {b:UInt8} (hn:0<=n) (hb:dE b=true):0<=cm n b/\cm n b<=1099511627776:=by
 rw[pA]at hb;unfold cm;omega
theorem I9 (s:Bs) (h:∀b∈s,dE b=true):∀n:Int,0<=n->n<=1099511627776->0<=s.foldl cm n/\s.foldl cm n<=1099511627776:=by
 induction s with
 |nil=>intro n h1 h2;exact⟨h1,h2⟩
 |cons b s ih=>
  intro n h1 h2;have:=Sa h1 (h b An);exact ih (fun c hc=>h c (Ao _ hc)) _ this.1 this.2
section
variable [Inhabited aL]
noncomputable def Z2:TypeId->Option View:=fun t=>bif Nat.beq t Ty.string then some ⟨Bs,aU⟩else none
noncomputable def bW (gP:FuncId->Option aN) (mB:FuncId->Nat->Option aI):iL:={tab:=qX,view:=Z2,gP,mB}
def cW {Y:Type}:Y->FuncId->Nat->Option aI:=fun _ _ _=>none
def cD (f r:Nat) (A:aI):FuncId->Nat->Option aI:=fun g s=>bif Nat.beq g f&&Nat.beq s r then some A else none
def i64 (n:Int):SV:= .int .i64 n
def strs (l:List Bs):SV:= .ar Bs l aU
def tt:aN:={Y:=Bs×Int,pre:=fun y=>y.1.length<=1000000,args:=fun y=>[.str y.1, .int .u8 y.2],res:=fun y=>i64 (iG y.1 y.2)}
def yC (y:Bs×Int):aI:={α:=Nat,ok:=fun i=>i<=y.1.length/\ ∀j (h:j<y.1.length),j<i->nB y.1[j]≠y.2,μ:=fun i=>y.1.length - i,aX:=[],aS:=fun i=>[(0, .str y.1),(1, .int .u8 y.2),(5,i64 (-1)),(8,i64 (Int.ofNat y.1.length)),(9,i64 i)],bw:=fun _=>[]}
def p8:aN:={Y:=Bs×Int,pre:=fun y=>y.1.length<=1000000,args:=fun y=>[.str y.1, .int .u8 y.2],res:=fun y=> .bG [.str (dW y.1 y.2).1, .str (dW y.1 y.2).2.1, .bool (dW y.1 y.2).2.2]}
def sZ:aN:={Y:=Bs×Int,pre:=fun y=>y.1.length<=100000,args:=fun y=>[.str y.1, .int .u8 y.2],res:=fun y=>strs (aW y.1 y.2)}
def xY (y:Bs×Int):aI:={α:=Bs×List Bs,ok:=fun x=>aW y.1 y.2=x.2++aW x.1 y.2/\x.2.length+x.1.length<=y.1.length,μ:=fun x=>x.1.length,aX:=[],aS:=fun x=>[(0, .str x.1),(1, .int .u8 y.2),(5, .own 0)],bw:=fun x=>[(0, .arr Bs x.2 aU Ty.string)]}
def p9:aN:={Y:=UInt8,pre:=fun _=>True,args:=fun y=>[.int .u8 (nB y)],res:=fun y=> .bool (dE y)}
def tq:aN:={Y:=Bs,pre:=fun y=>y.length<=1000000,args:=fun y=>[.str y],res:=fun y=>i64 (dv y)}
def yB (y:Bs):aI:={α:=Nat,ok:=fun i=>i<=dv y,μ:=fun i=>y.length - i,aX:=[],aS:=fun i=>[(0, .str y),(3,i64 i)],bw:=fun _=>[]}
def lC:aN:={Y:=Bs,pre:=fun y=>y.length<=1000000,args:=fun y=>[.str y],res:=fun y=> .bG [i64 (bu y).1, .bool (bu y).2]}
def jd (y:Bs):aI:={α:=Nat,ok:=fun i=>i<=(ay y).length/\ ∀b∈ay y,dE b=true,μ:=fun i=>(ay y).length - i,aX:=[],aS:=fun i=>[(4, .str (ay y)),(5,i64 (if cK y then -1 else 1)),(6,i64 (((ay y).take i).foldl cm 0)),(28,i64 (Int.ofNat (ay y).length)),(29,i64 i)],bw:=fun _=>[]}
def xT (y:Bs×Int):aI:={α:=Nat,ok:=fun i=>i<=y.1.length/\ ∀j (h:j<y.1.length),j<i->nB y.1[j]≠y.2,μ:=fun i=>y.1.length - i,aX:=[],aS:=fun i=>[(0, .str y.1),(1, .int .u8 y.2),(5,i64 i)],bw:=fun _=>[]}
def sT (y:Bs×Int):aI:={α:=Nat×Nat×List Bs,ok:=fun x=>x.1<=x.2.1/\x.2.1<=y.1.length/\aW y.1 y.2=x.2.2++aW (y.1.drop x.1) y.2/\x.2.2.length<=x.1/\ ∀j (h:j<y.1.length),x.1<=j->j<x.2.1->nB y.1[j]≠y.2,μ:=fun x=>y.1.length - x.2.1,aX:=[],aS:=fun x=>[(0, .str y.1),(1, .int .u8 y.2),(5, .own 0),(6,i64 x.1),(7,i64 x.2.1)],bw:=fun x=>[(0, .arr Bs x.2.2 aU Ty.string)]}
def mc (y:Bs):aI:={α:=Nat,ok:=fun i=>i<=y.length,μ:=fun i=>y.length - i,aX:=[],aS:=fun i=>[(0, .str y),(3,i64 (Int.ofNat (min i (dv y)))),(4,i64 i)],bw:=fun _=>[]}
def cg (y:Bs):Nat:=if cK y then 1 else 0
def ju (y:Bs):aI:={α:=Nat,ok:=fun i=>cg y<=i/\i<=y.length/\ ∀b∈ay y,dE b=true,μ:=fun i=>y.length - i,aX:=[],aS:=fun i=>[(0, .str y),(4,i64 (Int.ofNat (cg y))),(5,i64 (((ay y).take (i - cg y)).foldl cm 0)),(6,i64 i)],bw:=fun _=>[]}
def GB:aN:={Y:=Nat,pre:=fun y=>y<=1099511627776,args:=fun y=>[i64 y],res:=fun y=> .str (jO y)}
def yE (y:Nat):aI:={α:=Nat×Nat×Bs,ok:=fun x=>x.1<=30/\x.2.2.length<=30/\jO y=lP (10+x.1) x.2.1++x.2.2/\x.2.2.length+x.1<=30/\x.2.1<10 ^ (x.1+1)/\x.2.1<=y,μ:=fun x=>x.2.1,aX:=[],aS:=fun x=>[(0,i64 x.2.1),(3, .str x.2.2)],bw:=fun _=>[]}
noncomputable def yK (f:FuncId):Option aN:=bif Nat.beq f nE then some tt else none
noncomputable def yL (f:FuncId):Option aN:=bif Nat.beq f G0 then some p8 else yK f
noncomputable def yM (f:FuncId):Option aN:=bif Nat.beq f nA then some sZ else bif Nat.beq f rF then some p9 else yL f
noncomputable def tw (f:FuncId):Option aN:=bif Nat.beq f nj then some tq else bif Nat.beq f nr then some tq else yM f
noncomputable def NA (f:FuncId):Option aN:=bif Nat.beq f nm then some lC else bif Nat.beq f nu then some lC else bif Nat.beq f nH then some tt else bif Nat.beq f nC then some sZ else bif Nat.beq f nI then some GB else tw f
noncomputable def cj (_:FuncId):Option aN:=none
end
section
variable [Inhabited aL]
theorem OA:(cf (fun(y:aN.Y tt)=>bW cj (cD nE 3 (yC y))) 400 nE)=(∀(y:Bs×Int),y.1.length<=1000000->(∃(x:Nat),(x<=y.1.length/\ ∀(j:Nat) (h:j<y.1.length),j<x->ak (nB y.1[j]) y.2->False)/\(y.1=y.1/\ak y.2 y.2/\ak (-1) (-1)/\ak (Int.ofNat y.1.length) (Int.ofNat y.1.length)/\ak 0 ↑x/\True)/\True/\True)/\ ∀(x:Nat),(x<=y.1.length/\ ∀(j:Nat) (h:j<y.1.length),j<x->ak (nB y.1[j]) y.2->False)->br (bI (↑x) (Int.ofNat y.1.length)) (so y.1[Int.toNat ↑x]? fun(val:UInt8)=>br (Int.ofNat (UInt8.toNat val)==y.2) (ak (↑x) (iG y.1 y.2)/\True) (ck (bq .i64 (↑x+1)) (∃(z:Nat),(z<=y.1.length/\ ∀(j:Nat) (h:j<y.1.length),j<z->ak (nB y.1[j]) y.2->False)/\aI.μ (yC y) z<aI.μ (yC y) x/\(y.1=y.1/\ak y.2 y.2/\ak (-1) (-1)/\ak (Int.ofNat y.1.length) (Int.ofNat y.1.length)/\ak (↑x+1) ↑z/\True)/\True/\True))) (ak (-1) (iG y.1 y.2)/\True)):=by kernel_rfl
theorem PD:(cf (fun(y:aN.Y p8)=>bW yK (cW y)) 400 G0)=(∀(y:Bs×Int),y.1.length<=1000000->∃(z:Bs×Int),y.1=z.1/\ak y.2 z.2/\z.1.length<=1000000/\br (bI (iG z.1 z.2) 0) (y.1=Prod.fst (dW y.1 y.2)/\Array.toList (ByteArray.data {data:=#[]})=Prod.fst (Prod.snd (dW y.1 y.2))/\false=Prod.snd (Prod.snd (dW y.1 y.2))/\True) (ck (nn (iG z.1 z.2)) (ck (Nat.ble (Int.toNat (iG z.1 z.2)) y.1.length) (ck (bq .i64 (iG z.1 z.2+1)) (ck (nn (iG z.1 z.2+1)) (ck (Nat.ble (Int.toNat (iG z.1 z.2+1)) y.1.length) (List.take (Int.toNat (iG z.1 z.2)) y.1=Prod.fst (dW y.1 y.2)/\List.drop (Int.toNat (iG z.1 z.2+1)) y.1=Prod.fst (Prod.snd (dW y.1 y.2))/\true=Prod.snd (Prod.snd (dW y.1 y.2))/\True))))))):=by kernel_rfl
theorem Y0:(cf (fun(y:aN.Y sZ)=>bW yL (cD nA 2 (xY y))) 400 nA)=(∀(y:Bs×Int),y.1.length<=100000->(∃(x:Bs×List Bs),(aW y.1 y.2=x.2++aW x.1 y.2/\x.2.length+x.1.length<=y.1.length)/\(y.1=x.1/\ak y.2 y.2/\True/\True)/\((x.2=[]/\ ∀(x:Bs),List.length (aU x)=1)/\True)/\True)/\ ∀(x:Bs×List Bs),aW y.1 y.2=x.2++aW x.1 y.2/\x.2.length+x.1.length<=y.1.length->∃(z:Bs×Int),x.1=z.1/\ak y.2 z.2/\z.1.length<=1000000/\ ∃(v:Bs),[SV.str v]=[SV.str (Prod.fst (dW z.1 z.2))]/\ck (Nat.ble ((x.2.length+List.length [v])*16) 16777216&&Nat.ble (x.2.length+List.length [v]) 16777216) (br (!Prod.snd (Prod.snd (dW z.1 z.2))) (SV.ar Bs (x.2++[v]) aU=SV.ar Bs (aW y.1 y.2) aU/\True) (∃(u:Bs×List Bs),(aW y.1 y.2=u.2++aW u.1 y.2/\u.2.length+u.1.length<=y.1.length)/\aI.μ (xY y) u<aI.μ (xY y) x/\(Prod.fst (Prod.snd (dW z.1 z.2))=u.1/\ak y.2 y.2/\True/\True)/\(SV.ar Bs (x.2++[v]) aU=SV.ar Bs u.2 aU/\True)/\True))):=by kernel_rfl
theorem PE:(cf (fun(y:aN.Y p9)=>bW cj (cW y)) 400 rF)=(∀(y:UInt8),True->br (bV 48 (nB y)) (bV (nB y) 57=dE y/\True) (false=dE y/\True)):=by kernel_rfl
theorem Oz:(cf (fun(y:aN.Y tq)=>bW yM (cD nj 2 (yB y))) 400 nj)=(∀(y:List UInt8),y.length<=1000000->(∃(x:Nat),x<=dv y/\(y=y/\ak 0 ↑x/\True)/\True/\True)/\ ∀(x:Nat),x<=dv y->br (bI (↑x) (Int.ofNat y.length)) (so y[Int.toNat ↑x]? fun(val:UInt8)=>∃(u:UInt8),ak (Int.ofNat (UInt8.toNat val)) (nB u)/\True/\br (dE u) (ck (bq .i64 (↑x+1)) (∃(z:Nat),z<=dv y/\aI.μ (yB y) z<aI.μ (yB y) x/\(y=y/\ak (↑x+1) ↑z/\True)/\True/\True)) (ak ↑x ↑(dv y)/\True)) (ak ↑x ↑(dv y)/\True)):=by kernel_rfl
theorem OX:(cf (fun(y:aN.Y lC)=>bW tw (cD nm 8 (jd y))) 400 nm)=(∀(y:List UInt8),y.length<=1000000->br (!y==Array.toList (ByteArray.data {data:=#[]})) (so y[Int.toNat 0]? fun(val:UInt8)=>br (Int.ofNat (UInt8.toNat val)==45) (ck (Nat.ble (Int.toNat 1) y.length) (br (List.drop (Int.toNat 1) y==Array.toList (ByteArray.data {data:=#[]})) (ak 0 (Prod.fst (bu y))/\false=Prod.snd (bu y)/\True) (∃(u:List UInt8),List.drop (Int.toNat 1) y=u/\u.length<=1000000/\br (bI (↑(dv u)) (Int.ofNat (List.length (List.drop (Int.toNat 1) y)))) (ak 0 (Prod.fst (bu y))/\false=Prod.snd (bu y)/\True) ((∃(x:Nat),(x<=List.length (ay y)/\ ∀(b:UInt8),b∈ay y->dE b=true)/\(List.drop (Int.toNat 1) y=ay y/\ak (-1) (if cK y=true then -1 else 1)/\ak 0 (List.foldl cm 0 (List.take x (ay y)))/\ak (Int.ofNat (List.length (List.drop (Int.toNat 1) y))) (Int.ofNat (List.length (ay y)))/\ak 0 ↑x/\True)/\True/\True)/\ ∀(x:Nat),(x<=List.length (ay y)/\ ∀(b:UInt8),b∈ay y->dE b=true)->br (bI (↑x) (Int.ofNat (List.length (ay y)))) (ck (bq .i64 (List.foldl cm 0 (List.take x (ay y))*10)) (so (ay y)[Int.toNat ↑x]? fun(val:UInt8)=>ck (bq .i64 (List.foldl cm 0 (List.take x (ay y))*10+Go.IntKind.wrap .i64 (Go.IntKind.wrap Go.IntKind.u8 (Int.ofNat (UInt8.toNat val) - 48)))) (ck (bq .i64 (↑x+1)) (∃(z:Nat),(z<=List.length (ay y)/\ ∀(b:UInt8),b∈ay y->dE b=true)/\aI.μ (jd y) z<aI.μ (jd y) x/\(ay y=ay y/\ak (if cK y=true then -1 else 1) (if cK y=true then -1 else 1)/\ak (if 1099511627776<List.foldl cm 0 (List.take x (ay y))*10+Go.IntKind.wrap .i64 (Go.IntKind.wrap Go.IntKind.u8 (Int.ofNat (UInt8.toNat val) - 48))then 1099511627776 else List.foldl cm 0 (List.take x (ay y))*10+Go.IntKind.wrap .i64 (Go.IntKind.wrap Go.IntKind.u8 (Int.ofNat (UInt8.toNat val) - 48))) (List.foldl cm 0 (List.take z (ay y)))/\ak (Int.ofNat (List.length (ay y))) (Int.ofNat (List.length (ay y)))/\ak (↑x+1) ↑z/\True)/\True/\True)))) (ck (bq .i64 ((if cK y=true then -1 else 1)*List.foldl cm 0 (List.take x (ay y)))) (ak ((if cK y=true then -1 else 1)*List.foldl cm 0 (List.take x (ay y))) (Prod.fst (bu y))/\true=Prod.snd (bu y)/\True)))))) (br (y==Array.toList (ByteArray.data {data:=#[]})) (ak 0 (Prod.fst (bu y))/\false=Prod.snd (bu y)/\True) (∃(u:List UInt8),y=u/\u.length<=1000000/\br (bI (↑(dv u)) (Int.ofNat y.length)) (ak 0 (Prod.fst (bu y))/\false=Prod.snd (bu y)/\True) ((∃(x:Nat),(x<=List.length (ay y)/\ ∀(b:UInt8),b∈ay y->dE b=true)/\(y=ay y/\ak 1 (if cK y=true then -1 else 1)/\ak 0 (List.foldl cm 0 (List.take x (ay y)))/\ak (Int.ofNat y.length) (Int.ofNat (List.length (ay y)))/\ak 0 ↑x/\True)/\True/\True)/\ ∀(x:Nat),(x<=List.length (ay y)/\ ∀(b:UInt8),b∈ay y->dE b=true)->br (bI (↑x) (Int.ofNat (List.length (ay y)))) (ck (bq .i64 (List.foldl cm 0 (List.take x (ay y))*10)) (so (ay y)[Int.toNat ↑x]? fun(val:UInt8)=>ck (bq .i64 (List.foldl cm 0 (List.take x (ay y))*10+Go.IntKind.wrap .i64 (Go.IntKind.wrap Go.IntKind.u8 (Int.ofNat (UInt8.toNat val) - 48)))) (ck (bq .i64 (↑x+1)) (∃(z:Nat),(z<=List.length (ay y)/\ ∀(b:UInt8),b∈ay y->dE b=true)/\aI.μ (jd y) z<aI.μ (jd y) x/\(ay y=ay y/\ak (if cK y=true then -1 else 1) (if cK y=true then -1 else 1)/\ak (if 1099511627776<List.foldl cm 0 (List.take x (ay y))*10+Go.IntKind.wrap .i64 (Go.IntKind.wrap Go.IntKind.u8 (Int.ofNat (UInt8.toNat val) - 48))then 1099511627776 else List.foldl cm 0 (List.take x (ay y))*10+Go.IntKind.wrap .i64 (Go.IntKind.wrap Go.IntKind.u8 (Int.ofNat (UInt8.toNat val) - 48))) (List.foldl cm 0 (List.take z (ay y)))/\ak (Int.ofNat (List.length (ay y))) (Int.ofNat (List.length (ay y)))/\ak (↑x+1) ↑z/\True)/\True/\True)))) (ck (bq .i64 ((if cK y=true then -1 else 1)*List.foldl cm 0 (List.take x (ay y)))) (ak ((if cK y=true then -1 else 1)*List.foldl cm 0 (List.take x (ay y))) (Prod.fst (bu y))/\true=Prod.snd (bu y)/\True)))))) (br (y==Array.toList (ByteArray.data {data:=#[]})) (ak 0 (Prod.fst (bu y))/\false=Prod.snd (bu y)/\True) (∃(u:List UInt8),y=u/\u.length<=1000000/\br (bI (↑(dv u)) (Int.ofNat y.length)) (ak 0 (Prod.fst (bu y))/\false=Prod.snd (bu y)/\True) ((∃(x:Nat),(x<=List.length (ay y)/\ ∀(b:UInt8),b∈ay y->dE b=true)/\(y=ay y/\ak 1 (if cK y=true then -1 else 1)/\ak 0 (List.foldl cm 0 (List.take x (ay y)))/\ak (Int.ofNat y.length) (Int.ofNat (List.length (ay y)))/\ak 0 ↑x/\True)/\True/\True)/\ ∀(x:Nat),(x<=List.length (ay y)/\ ∀(b:UInt8),b∈ay y->dE b=true)->br (bI (↑x) (Int.ofNat (List.length (ay y)))) (ck (bq .i64 (List.foldl cm 0 (List.take x (ay y))*10)) (so (ay y)[Int.toNat ↑x]? fun(val:UInt8)=>ck (bq .i64 (List.foldl cm 0 (List.take x (ay y))*10+Go.IntKind.wrap .i64 (Go.IntKind.wrap Go.IntKind.u8 (Int.ofNat (UInt8.toNat val) - 48)))) (ck (bq .i64 (↑x+1)) (∃(z:Nat),(z<=List.length (ay y)/\ ∀(b:UInt8),b∈ay y->dE b=true)/\aI.μ (jd y) z<aI.μ (jd y) x/\(ay y=ay y/\ak (if cK y=true then -1 else 1) (if cK y=true then -1 else 1)/\ak (if 1099511627776<List.foldl cm 0 (List.take x (ay y))*10+Go.IntKind.wrap .i64 (Go.IntKind.wrap Go.IntKind.u8 (Int.ofNat (UInt8.toNat val) - 48))then 1099511627776 else List.foldl cm 0 (List.take x (ay y))*10+Go.IntKind.wrap .i64 (Go.IntKind.wrap Go.IntKind.u8 (Int.ofNat (UInt8.toNat val) - 48))) (List.foldl cm 0 (List.take z (ay y)))/\ak (Int.ofNat (List.length (ay y))) (Int.ofNat (List.length (ay y)))/\ak (↑x+1) ↑z/\True)/\True/\True)))) (ck (bq .i64 ((if cK y=true then -1 else 1)*List.foldl cm 0 (List.take x (ay y)))) (ak ((if cK y=true then -1 else 1)*List.foldl cm 0 (List.take x (ay y))) (Prod.fst (bu y))/\true=Prod.snd (bu y)/\True)))))):=by kernel_rfl
theorem XQ:(cf (fun(y:aN.Y tt)=>bW cj (cD nH 2 (xT y))) 400 nH)=(∀(y:Bs×Int),y.1.length<=1000000->(∃(x:Nat),(x<=y.1.length/\ ∀(j:Nat) (h:j<y.1.length),j<x->ak (nB y.1[j]) y.2->False)/\(y.1=y.1/\ak y.2 y.2/\ak 0 ↑x/\True)/\True/\True)/\ ∀(x:Nat),(x<=y.1.length/\ ∀(j:Nat) (h:j<y.1.length),j<x->ak (nB y.1[j]) y.2->False)->br (bI (↑x) (Int.ofNat y.1.length)) (so y.1[Int.toNat ↑x]? fun(val:UInt8)=>br (Int.ofNat (UInt8.toNat val)==y.2) (ak (↑x) (iG y.1 y.2)/\True) (ck (bq .i64 (↑x+1)) (∃(z:Nat),(z<=y.1.length/\ ∀(j:Nat) (h:j<y.1.length),j<z->ak (nB y.1[j]) y.2->False)/\aI.μ (xT y) z<aI.μ (xT y) x/\(y.1=y.1/\ak y.2 y.2/\ak (↑x+1) ↑z/\True)/\True/\True))) (ak (-1) (iG y.1 y.2)/\True)):=by kernel_rfl
theorem WE:(cf (fun(y:aN.Y sZ)=>bW cj (cD nC 4 (sT y))) 400 nC)=(∀(y:Bs×Int),y.1.length<=100000->(∃(x:Nat×Nat×List Bs),(x.1<=x.2.1/\x.2.1<=y.1.length/\aW y.1 y.2=x.2.2++aW (List.drop x.1 y.1) y.2/\x.2.2.length<=x.1/\ ∀(j:Nat) (h:j<y.1.length),x.1<=j->j<x.2.1->ak (nB y.1[j]) y.2->False)/\(y.1=y.1/\ak y.2 y.2/\True/\ak 0 ↑x.1/\ak 0 ↑x.2.1/\True)/\(SV.ar (View.X {X:=Bs,enc:=aU}) [] (View.enc {X:=Bs,enc:=aU})=SV.ar Bs x.2.2 aU/\True)/\True)/\ ∀(x:Nat×Nat×List Bs),(x.1<=x.2.1/\x.2.1<=y.1.length/\aW y.1 y.2=x.2.2++aW (List.drop x.1 y.1) y.2/\x.2.2.length<=x.1/\ ∀(j:Nat) (h:j<y.1.length),x.1<=j->j<x.2.1->ak (nB y.1[j]) y.2->False)->br (bI (↑x.2.1) (Int.ofNat y.1.length)) (so y.1[Int.toNat ↑x.2.1]? fun(val:UInt8)=>br (Int.ofNat (UInt8.toNat val)==y.2) (ck (Nat.ble (Int.toNat ↑x.1) (Int.toNat ↑x.2.1)&&Nat.ble (Int.toNat ↑x.2.1) y.1.length) (∃(u:Bs),[SV.str u]=[SV.str (List.take (Int.toNat ↑x.2.1 - Int.toNat ↑x.1) (List.drop (Int.toNat ↑x.1) y.1))]/\ck (Nat.ble ((x.2.2.length+List.length [u])*16) 16777216&&Nat.ble (x.2.2.length+List.length [u]) 16777216) (ck (bq .i64 (↑x.2.1+1)) (ck (bq .i64 (↑x.2.1+1)) (∃(z:Nat×Nat×List Bs),(z.1<=z.2.1/\z.2.1<=y.1.length/\aW y.1 y.2=z.2.2++aW (List.drop z.1 y.1) y.2/\z.2.2.length<=z.1/\ ∀(j:Nat) (h:j<y.1.length),z.1<=j->j<z.2.1->ak (nB y.1[j]) y.2->False)/\aI.μ (sT y) z<aI.μ (sT y) x/\(y.1=y.1/\ak y.2 y.2/\True/\ak (↑x.2.1+1) ↑z.1/\ak (↑x.2.1+1) ↑z.2.1/\True)/\(SV.ar Bs (x.2.2++[u]) aU=SV.ar Bs z.2.2 aU/\True)/\True))))) (ck (bq .i64 (↑x.2.1+1)) (∃(z:Nat×Nat×List Bs),(z.1<=z.2.1/\z.2.1<=y.1.length/\aW y.1 y.2=z.2.2++aW (List.drop z.1 y.1) y.2/\z.2.2.length<=z.1/\ ∀(j:Nat) (h:j<y.1.length),z.1<=j->j<z.2.1->ak (nB y.1[j]) y.2->False)/\aI.μ (sT y) z<aI.μ (sT y) x/\(y.1=y.1/\ak y.2 y.2/\True/\ak ↑x.1 ↑z.1/\ak (↑x.2.1+1) ↑z.2.1/\True)/\(SV.ar Bs x.2.2 aU=SV.ar Bs z.2.2 aU/\True)/\True))) (ck (Nat.ble (Int.toNat ↑x.1) y.1.length) (∃(u:Bs),[SV.str u]=[SV.str (List.drop (Int.toNat ↑x.1) y.1)]/\ck (Nat.ble ((x.2.2.length+List.length [u])*16) 16777216&&Nat.ble (x.2.2.length+List.length [u]) 16777216) (SV.ar Bs (x.2.2++[u]) aU=SV.ar Bs (aW y.1 y.2) aU/\True)))):=by kernel_rfl
theorem XP:(cf (fun(y:aN.Y tq)=>bW cj (cD nr 3 (mc y))) 400 nr)=(∀(y:List UInt8),y.length<=1000000->(∃(x:Nat),x<=y.length/\(y=y/\ak 0 (Int.ofNat (Min.min x (dv y)))/\ak 0 ↑x/\True)/\True/\True)/\ ∀(x:Nat),x<=y.length->br (bI (↑x) (Int.ofNat y.length)) (br (Int.ofNat (Min.min x (dv y))==↑x) (so y[Int.toNat ↑x]? fun(val:UInt8)=>br (bV 48 (Int.ofNat (UInt8.toNat val))) (so y[Int.toNat ↑x]? fun(val:UInt8)=>br (bV (Int.ofNat (UInt8.toNat val)) 57) (ck (bq .i64 (Int.ofNat (Min.min x (dv y))+1)) (ck (bq .i64 (↑x+1)) (∃(z:Nat),z<=y.length/\aI.μ (mc y) z<aI.μ (mc y) x/\(y=y/\ak (Int.ofNat (Min.min x (dv y))+1) (Int.ofNat (Min.min z (dv y)))/\ak (↑x+1) ↑z/\True)/\True/\True))) (ck (bq .i64 (↑x+1)) (∃(z:Nat),z<=y.length/\aI.μ (mc y) z<aI.μ (mc y) x/\(y=y/\ak (Int.ofNat (Min.min x (dv y))) (Int.ofNat (Min.min z (dv y)))/\ak (↑x+1) ↑z/\True)/\True/\True))) (ck (bq .i64 (↑x+1)) (∃(z:Nat),z<=y.length/\aI.μ (mc y) z<aI.μ (mc y) x/\(y=y/\ak (Int.ofNat (Min.min x (dv y))) (Int.ofNat (Min.min z (dv y)))/\ak (↑x+1) ↑z/\True)/\True/\True))) (ck (bq .i64 (↑x+1)) (∃(z:Nat),z<=y.length/\aI.μ (mc y) z<aI.μ (mc y) x/\(y=y/\ak (Int.ofNat (Min.min x (dv y))) (Int.ofNat (Min.min z (dv y)))/\ak (↑x+1) ↑z/\True)/\True/\True))) (ak (Int.ofNat (Min.min x (dv y))) ↑(dv y)/\True)):=by kernel_rfl
theorem OI:(cf (fun(y:aN.Y lC)=>bW tw (cD nu 8 (ju y))) 400 nu)=(∀(y:List UInt8),y.length<=1000000->br (bI 0 (Int.ofNat y.length)) (so y[Int.toNat 0]? fun(val:UInt8)=>br (Int.ofNat (UInt8.toNat val)==45) (br (Int.ofNat y.length==1) (ak 0 (Prod.fst (bu y))/\false=Prod.snd (bu y)/\True) (ck (Nat.ble (Int.toNat 1) y.length) (∃(u:List UInt8),List.drop (Int.toNat 1) y=u/\u.length<=1000000/\ck (bq .i64 (Int.ofNat y.length - 1)) (br (bI (↑(dv u)) (Int.ofNat y.length - 1)) (ak 0 (Prod.fst (bu y))/\false=Prod.snd (bu y)/\True) ((∃(x:Nat),(cg y<=x/\x<=y.length/\ ∀(b:UInt8),b∈ay y->dE b=true)/\(y=y/\ak 1 (Int.ofNat (cg y))/\ak 0 (List.foldl cm 0 (List.take (x - cg y) (ay y)))/\ak 1 ↑x/\True)/\True/\True)/\ ∀(x:Nat),(cg y<=x/\x<=y.length/\ ∀(b:UInt8),b∈ay y->dE b=true)->br (bI (↑x) (Int.ofNat y.length)) (ck (bq .i64 (List.foldl cm 0 (List.take (x - cg y) (ay y))*10)) (so y[Int.toNat ↑x]? fun(val:UInt8)=>ck (bq .i64 (List.foldl cm 0 (List.take (x - cg y) (ay y))*10+Go.IntKind.wrap .i64 (Int.ofNat (UInt8.toNat val)))) (ck (bq .i64 (List.foldl cm 0 (List.take (x - cg y) (ay y))*10+Go.IntKind.wrap .i64 (Int.ofNat (UInt8.toNat val)) - 48)) (br (bI 1099511627776 (List.foldl cm 0 (List.take (x - cg y) (ay y))*10+Go.IntKind.wrap .i64 (Int.ofNat (UInt8.toNat val)) - 48)) (ck (bq .i64 (↑x+1)) (∃(z:Nat),(cg y<=z/\z<=y.length/\ ∀(b:UInt8),b∈ay y->dE b=true)/\aI.μ (ju y) z<aI.μ (ju y) x/\(y=y/\ak (Int.ofNat (cg y)) (Int.ofNat (cg y))/\ak 1099511627776 (List.foldl cm 0 (List.take (z - cg y) (ay y)))/\ak (↑x+1) ↑z/\True)/\True/\True)) (ck (bq .i64 (↑x+1)) (∃(z:Nat),(cg y<=z/\z<=y.length/\ ∀(b:UInt8),b∈ay y->dE b=true)/\aI.μ (ju y) z<aI.μ (ju y) x/\(y=y/\ak (Int.ofNat (cg y)) (Int.ofNat (cg y))/\ak (List.foldl cm 0 (List.take (x - cg y) (ay y))*10+Go.IntKind.wrap .i64 (Int.ofNat (UInt8.toNat val)) - 48) (List.foldl cm 0 (List.take (z - cg y) (ay y)))/\ak (↑x+1) ↑z/\True)/\True/\True)))))) (br (Int.ofNat (cg y)==1) (ck (bq .i64 (0 - List.foldl cm 0 (List.take (x - cg y) (ay y)))) (ak (0 - List.foldl cm 0 (List.take (x - cg y) (ay y))) (Prod.fst (bu y))/\true=Prod.snd (bu y)/\True)) (ak (List.foldl cm 0 (List.take (x - cg y) (ay y))) (Prod.fst (bu y))/\true=Prod.snd (bu y)/\True))))))) (br (Int.ofNat y.length==0) (ak 0 (Prod.fst (bu y))/\false=Prod.snd (bu y)/\True) (∃(u:List UInt8),List.drop (Int.toNat 0) y=u/\u.length<=1000000/\ck (bq .i64 (Int.ofNat y.length - 0)) (br (bI (↑(dv u)) (Int.ofNat y.length - 0)) (ak 0 (Prod.fst (bu y))/\false=Prod.snd (bu y)/\True) ((∃(x:Nat),(cg y<=x/\x<=y.length/\ ∀(b:UInt8),b∈ay y->dE b=true)/\(y=y/\ak 0 (Int.ofNat (cg y))/\ak 0 (List.foldl cm 0 (List.take (x - cg y) (ay y)))/\ak 0 ↑x/\True)/\True/\True)/\ ∀(x:Nat),(cg y<=x/\x<=y.length/\ ∀(b:UInt8),b∈ay y->dE b=true)->br (bI (↑x) (Int.ofNat y.length)) (ck (bq .i64 (List.foldl cm 0 (List.take (x - cg y) (ay y))*10)) (so y[Int.toNat ↑x]? fun(val:UInt8)=>ck (bq .i64 (List.foldl cm 0 (List.take (x - cg y) (ay y))*10+Go.IntKind.wrap .i64 (Int.ofNat (UInt8.toNat val)))) (ck (bq .i64 (List.foldl cm 0 (List.take (x - cg y) (ay y))*10+Go.IntKind.wrap .i64 (Int.ofNat (UInt8.toNat val)) - 48)) (br (bI 1099511627776 (List.foldl cm 0 (List.take (x - cg y) (ay y))*10+Go.IntKind.wrap .i64 (Int.ofNat (UInt8.toNat val)) - 48)) (ck (bq .i64 (↑x+1)) (∃(z:Nat),(cg y<=z/\z<=y.length/\ ∀(b:UInt8),b∈ay y->dE b=true)/\aI.μ (ju y) z<aI.μ (ju y) x/\(y=y/\ak (Int.ofNat (cg y)) (Int.ofNat (cg y))/\ak 1099511627776 (List.foldl cm 0 (List.take (z - cg y) (ay y)))/\ak (↑x+1) ↑z/\True)/\True/\True)) (ck (bq .i64 (↑x+1)) (∃(z:Nat),(cg y<=z/\z<=y.length/\ ∀(b:UInt8),b∈ay y->dE b=true)/\aI.μ (ju y) z<aI.μ (ju y) x/\(y=y/\ak (Int.ofNat (cg y)) (Int.ofNat (cg y))/\ak (List.foldl cm 0 (List.take (x - cg y) (ay y))*10+Go.IntKind.wrap .i64 (Int.ofNat (UInt8.toNat val)) - 48) (List.foldl cm 0 (List.take (z - cg y) (ay y)))/\ak (↑x+1) ↑z/\True)/\True/\True)))))) (br (Int.ofNat (cg y)==1) (ck (bq .i64 (0 - List.foldl cm 0 (List.take (x - cg y) (ay y)))) (ak (0 - List.foldl cm 0 (List.take (x - cg y) (ay y))) (Prod.fst (bu y))/\true=Prod.snd (bu y)/\True)) (ak (List.foldl cm 0 (List.take (x - cg y) (ay y))) (Prod.fst (bu y))/\true=Prod.snd (bu y)/\True))))))) (br (Int.ofNat y.length==0) (ak 0 (Prod.fst (bu y))/\false=Prod.snd (bu y)/\True) (∃(u:List UInt8),List.drop (Int.toNat 0) y=u/\u.length<=1000000/\ck (bq .i64 (Int.ofNat y.length - 0)) (br (bI (↑(dv u)) (Int.ofNat y.length - 0)) (ak 0 (Prod.fst (bu y))/\false=Prod.snd (bu y)/\True) ((∃(x:Nat),(cg y<=x/\x<=y.length/\ ∀(b:UInt8),b∈ay y->dE b=true)/\(y=y/\ak 0 (Int.ofNat (cg y))/\ak 0 (List.foldl cm 0 (List.take (x - cg y) (ay y)))/\ak 0 ↑x/\True)/\True/\True)/\ ∀(x:Nat),(cg y<=x/\x<=y.length/\ ∀(b:UInt8),b∈ay y->dE b=true)->br (bI (↑x) (Int.ofNat y.length)) (ck (bq .i64 (List.foldl cm 0 (List.take (x - cg y) (ay y))*10)) (so y[Int.toNat ↑x]? fun(val:UInt8)=>ck (bq .i64 (List.foldl cm 0 (List.take (x - cg y) (ay y))*10+Go.IntKind.wrap .i64 (Int.ofNat (UInt8.toNat val)))) (ck (bq .i64 (List.foldl cm 0 (List.take (x - cg y) (ay y))*10+Go.IntKind.wrap .i64 (Int.ofNat (UInt8.toNat val)) - 48)) (br (bI 1099511627776 (List.foldl cm 0 (List.take (x - cg y) (ay y))*10+Go.IntKind.wrap .i64 (Int.ofNat (UInt8.toNat val)) - 48)) (ck (bq .i64 (↑x+1)) (∃(z:Nat),(cg y<=z/\z<=y.length/\ ∀(b:UInt8),b∈ay y->dE b=true)/\aI.μ (ju y) z<aI.μ (ju y) x/\(y=y/\ak (Int.ofNat (cg y)) (Int.ofNat (cg y))/\ak 1099511627776 (List.foldl cm 0 (List.take (z - cg y) (ay y)))/\ak (↑x+1) ↑z/\True)/\True/\True)) (ck (bq .i64 (↑x+1)) (∃(z:Nat),(cg y<=z/\z<=y.length/\ ∀(b:UInt8),b∈ay y->dE b=true)/\aI.μ (ju y) z<aI.μ (ju y) x/\(y=y/\ak (Int.ofNat (cg y)) (Int.ofNat (cg y))/\ak (List.foldl cm 0 (List.take (x - cg y) (ay y))*10+Go.IntKind.wrap .i64 (Int.ofNat (UInt8.toNat val)) - 48) (List.foldl cm 0 (List.take (z - cg y) (ay y)))/\ak (↑x+1) ↑z/\True)/\True/\True)))))) (br (Int.ofNat (cg y)==1) (ck (bq .i64 (0 - List.foldl cm 0 (List.take (x - cg y) (ay y)))) (ak (0 - List.foldl cm 0 (List.take (x - cg y) (ay y))) (Prod.fst (bu y))/\true=Prod.snd (bu y)/\True)) (ak (List.foldl cm 0 (List.take (x - cg y) (ay y))) (Prod.fst (bu y))/\true=Prod.snd (bu y)/\True))))))):=by kernel_rfl
theorem OL:(cf (fun(y:aN.Y GB)=>bW cj (cD nI 6 (yE y))) 400 nI)=(∀(y:Nat),y<=1099511627776->(∃(x:Nat×Nat×Bs),(x.1<=30/\x.2.2.length<=30/\jO y=lP (10+x.1) x.2.1++x.2.2/\x.2.2.length+x.1<=30/\x.2.1<10 ^ (x.1+1)/\x.2.1<=y)/\(ak ↑y ↑x.2.1/\Array.toList (ByteArray.data {data:=#[]})=x.2.2/\True)/\True/\True)/\ ∀(x:Nat×Nat×Bs),x.1<=30/\x.2.2.length<=30/\jO y=lP (10+x.1) x.2.1++x.2.2/\x.2.2.length+x.1<=30/\x.2.1<10 ^ (x.1+1)/\x.2.1<=y->br (bI 9 ↑x.2.1) (ck (bq .i64 (48+Int.tmod (↑x.2.1) 10)) (∃(c:List UInt8),[SV.int Go.IntKind.u8 (Go.IntKind.wrap Go.IntKind.u8 (48+Int.tmod (↑x.2.1) 10))]=qS c/\ck (Nat.ble (c.length+x.2.2.length) 1048576) (ck (bq .i64 (Int.tdiv (↑x.2.1) 10)) (∃(z:Nat×Nat×Bs),(z.1<=30/\z.2.2.length<=30/\jO y=lP (10+z.1) z.2.1++z.2.2/\z.2.2.length+z.1<=30/\z.2.1<10 ^ (z.1+1)/\z.2.1<=y)/\aI.μ (yE y) z<aI.μ (yE y) x/\(ak (Int.tdiv (↑x.2.1) 10) ↑z.2.1/\c++x.2.2=z.2.2/\True)/\True/\True)))) (ck (bq .i64 (48+↑x.2.1)) (∃(c:List UInt8),[SV.int Go.IntKind.u8 (Go.IntKind.wrap Go.IntKind.u8 (48+↑x.2.1))]=qS c/\ck (Nat.ble (c.length+x.2.2.length) 1048576) (c++x.2.2=jO y/\True)))):=by kernel_rfl
end
end Go.Proofs
namespace Go.Proofs
open Go Go.Am Go.RowKit Go.Sy Go.Lib
structure aA where
 name:Bs
 domain:Bs
 path:Bs
deriving DecidableEq,Inhabited
structure cU where
 value:Bs
 aG:Bool
 aV:Bool
 aH:Bool
 persistent:Bool
 aQ:Int
 aq:Int
 access:Int
deriving DecidableEq,Inhabited
structure aa where
 key:aA
 ab:cU
deriving DecidableEq,Inhabited
structure az where
 aC:Int
 domain:Int
 total:Int
 rules:List Bs
def aA.enc (x:aA):List SV:=[.str x.name, .str x.domain, .str x.path]
def cU.enc (x:cU):List SV:=[.str x.value, .bool x.aG, .bool x.aV, .bool x.aH, .bool x.persistent, .int .i64 x.aQ, .int .i64 x.aq, .int .i64 x.access]
def aa.enc (x:aa):List SV:=[.str x.key.name, .str x.key.domain, .str x.key.path, .str x.ab.value, .bool x.ab.aG, .bool x.ab.aV, .bool x.ab.aH, .bool x.ab.persistent, .int .i64 x.ab.aQ, .int .i64 x.ab.aq, .int .i64 x.ab.access]
def az.enc (x:az):List SV:=[.int .i64 x.aC, .int .i64 x.domain, .int .i64 x.total, .ar Bs x.rules aU]
abbrev lt (a b:Bs):Bool:=Op.bytesLess a b
theorem lt_irrefl:∀a,lt a a=false
 |[]=>rfl
 |a::l=>by simp[lt,Op.bytesLess];exact lt_irrefl l
theorem lt_trans:∀a b c,lt a b=true->lt b c=true->lt a c=true:=by
 intro a;induction a with
 |nil=>intro b c h1 h2;cases c with
  |nil=>cases b<;>simp[lt,Op.bytesLess]at h1 h2
  |cons=>rfl
 | cons x a ih=>
  intro b c h1 h2
  cases b with
  |nil=>simp[lt,Op.bytesLess]at h1
  | cons y b=>cases c with
   |nil=>simp[lt,Op.bytesLess]at h2
   |cons z c=>
    simp only[lt,Op.bytesLess,BF,Ad,Aa,BP]at*;rcases h1 with h1|⟨rfl,h1⟩<;>rcases h2 with h2|⟨rfl,h2⟩
    . exact .inl (UInt8.lt_trans h1 h2)
    . exact .inl h1
    . exact .inl h2
    . exact .inr ⟨rfl,ih b c h1 h2⟩
theorem yd:∀a b,lt a b=true\/a=b\/lt b a=true:=by
 intro a;induction a with
 |nil=>intro b;cases b<;>simp[lt,Op.bytesLess]
 | cons x a ih=>
  intro b
  cases b with
  |nil=>simp[lt,Op.bytesLess]
  |cons y b=>
   simp only[lt,Op.bytesLess,BF,Ad,Aa,BP,BS];rcases Nat.lt_trichotomy x.toNat y.toNat with h|h|h
   . exact .inl (.inl (Fw.2 h))
   . have h:x=y:=EA.1 h;subst h;rcases ih b with h|h|h
     . exact .inl (.inr ⟨rfl,h⟩)
     . exact .inr (.inl ⟨rfl,h⟩)
     . exact .inr (.inr (.inr ⟨rfl,h⟩))
   . exact .inr (.inr (.inl (Fw.2 h)))
def eD (a b:Bs):Int:=if lt a b then -1 else if a=b then 0 else 1
theorem QY:∀(a b:Bs),compareBytes a b=eD a b:=by
 intro a;induction a with
 |nil=>intro b;cases b<;>simp[compareBytes,eD,lt,Op.bytesLess]
 | cons x a ih=>
  intro b
  cases b with
  |nil=>simp[compareBytes,eD,lt,Op.bytesLess]
  |cons y b=>
   simp only[compareBytes,ih b,eD,lt,Op.bytesLess,BF,Ad,Aa,BP,BS];by_cases h1:x<y
   . simp[h1]
   . by_cases h2:y<x
     . have:x≠y:=by rintro rfl;exact h1 h2
       simp[h1,h2,this]
     . have:x=y:=EA.1 (by have:=UInt8.not_lt.1 h1;have:=UInt8.not_lt.1 h2;simp[UInt8.le_iff_toNat_le]at*;omega);subst this;simp
theorem Tv (a b:Bs):Extern.BytealgCompare.cmp ⟨a.toArray⟩ ⟨b.toArray⟩=eD a b:=by
 rw[cmp_eq,QY]
theorem wL (a b:Bs):eD a b=0↔a=b:=by
 unfold eD;by_cases h:a=b
 . subst h;simp[lt_irrefl]
 . by_cases h1:lt a b=true<;>simp[h,h1]
theorem Cs (a b:Bs):eD a b<0↔lt a b=true:=by
 unfold eD;by_cases h1:lt a b=true
 . simp[h1]
 . by_cases h:a=b<;>simp[h,h1]<;>simp_all[lt_irrefl]
def dg (a b:Int):Int:=if a<b then -1 else if b<a then 1 else 0
theorem si (a b:Int):dg a b=0↔a=b:=by
 unfold dg;by_cases h:a<b
 . rw[if_pos h];omega
 . rw[if_neg h];by_cases h2:b<a
   . rw[if_pos h2];omega
   . rw[if_neg h2];omega
theorem sH (a b:Int):dg a b<0↔a<b:=by
 unfold dg;by_cases h:a<b
 . rw[if_pos h];omega
 . rw[if_neg h];by_cases h2:b<a
   . rw[if_pos h2];omega
   . rw[if_neg h2];omega
def oV (a b:aA):Int:=let n:=eD a.name b.name;if n≠0 then n else let d:=eD a.domain b.domain;if d≠0 then d else eD a.path b.path
def fy (a b:aA):Bool:=decide (oV a b<0)
theorem wo (a b:aA):fy a b=if a.name≠b.name then lt a.name b.name else if a.domain≠b.domain then lt a.domain b.domain else lt a.path b.path:=by
 rw[A2];unfold fy oV;by_cases h1:a.name=b.name
 . have e1:=(wL a.name b.name).2 h1;by_cases h2:a.domain=b.domain
   . have e2:=(wL a.domain b.domain).2 h2;have:=Cs a.path b.path;simp_all
   . have e2:=fun h=>h2 ((wL a.domain b.domain).1 h)
     have:=Cs a.domain b.domain;simp_all
 . have e1:=fun h=>h1 ((wL a.name b.name).1 h)
   have:=Cs a.name b.name;simp_all
theorem mK (a:aA):fy a a=false:=by simp[wo,lt_irrefl]
theorem pz (a b c:aA) (h1:fy a b=true) (h2:fy b c=true):fy a c=true:=by
 rw[wo]at*;by_cases n1:a.name=b.name
 . by_cases n2:b.name=c.name
   . have n3:a.name=c.name:=n1.trans n2;simp only[n1,n2,n3,ne_eq,Dt,AB]at h1 h2⊢;by_cases d1:a.domain=b.domain
     . by_cases d2:b.domain=c.domain
       . have d3:a.domain=c.domain:=d1.trans d2;simp only[d1,d2,d3,ne_eq,Dt,AB]at h1 h2⊢;exact lt_trans _ _ _ h1 h2
       . simp only[d1,d2,ne_eq,Dt,Bl,AB,if_true]at h1 h2⊢;exact h2
     . simp only[d1,ne_eq,Bl,if_true]at h1;by_cases d2:b.domain=c.domain
       . rw[<-d2];simp only[d1,ne_eq,Bl,if_true];exact h1
       . simp only[d2,ne_eq,Bl,if_true]at h2;have h3:=lt_trans _ _ _ h1 h2;have d3:a.domain≠c.domain:=fun e=>by rw[e,lt_irrefl]at h3;cases h3
         simp only[d3,ne_eq,Bl,if_true];exact h3
   . simp only[n1,n2,ne_eq,Bl,if_true]at h2⊢;exact h2
 . simp only[n1,ne_eq,Bl,if_true]at h1;by_cases n2:b.name=c.name
   . rw[<-n2];simp only[n1,ne_eq,Bl,if_true];exact h1
   . simp only[n2,ne_eq,Bl,if_true]at h2;have h3:=lt_trans _ _ _ h1 h2;have n3:a.name≠c.name:=fun e=>by rw[e,lt_irrefl]at h3;cases h3
     simp only[n3,ne_eq,Bl,if_true];exact h3
theorem ue (a b:aA):fy a b=true\/a=b\/fy b a=true:=by
 simp only[wo];by_cases h1:a.name=b.name
 . by_cases h2:a.domain=b.domain
   . simp only[h1,h2,ne_eq,Dt,AB];rcases yd a.path b.path with h|h|h
     . exact .inl h
     . exact .inr (.inl (by cases a;cases b;simp_all))
     . exact .inr (.inr h)
   . have h2':=Ne.symm h2;simp only[h1,h2,h2',ne_eq,Dt,Bl,AB,if_true];rcases yd a.domain b.domain with h|h|h
     . exact .inl h
     . exact absurd h h2
     . exact .inr (.inr h)
 . have h1':=Ne.symm h1;simp only[h1,h1',ne_eq,Bl,if_true];rcases yd a.name b.name with h|h|h
   . exact .inl h
   . exact absurd h h1
   . exact .inr (.inr h)
end Go.Proofs
namespace Go.Sy
open Go.Am Go.RowKit
universe u v
section
variable {H:Type} {enc:TypeId×Value->H} {P:Program} {w:World} {base:Nat} {spare:Nat->Bool} {held:Bool} {Fz:Nat->Option AO} {N:Nat}
def gJ (Fz:Nat->Option AO) (N:Nat) (l:List SV) (cs:List Value):Prop:=l.length=cs.length/\ ∀(j:Nat) v u,l[j]? =some v->cs[j]? =some u->aT Fz v (cQ N u)
theorem gJ.nil:gJ Fz N [] []:=⟨rfl,fun j v u h=>by simp at h⟩
theorem gJ.cons {s:SV} {v:Value} {l:List SV} {m:List Value} (h:aT Fz s (cQ N v)) (t:gJ Fz N l m):gJ Fz N (s::l) (v::m):=by
 refine⟨by simp[t.1],fun i a b ha hb=>?_⟩
 cases i with
 |zero=>simp at ha hb;subst ha;subst hb;exact h
 |succ i=>exact t.2 i a b (by simpa using ha) (by simpa using hb)
theorem gJ.append {l l':List SV} {m m':List Value} (h:gJ Fz N l m) (h':gJ Fz N l' m'):gJ Fz N (l++l') (m++m'):=by
 refine⟨by simp[h.1,h'.1],fun i a b ha hb=>?_⟩;by_cases hi:i<l.length
 . rw[A3 hi]at ha;rw[A3 (by rw[<-h.1];exact hi)]at hb;exact h.2 i a b ha hb
 . rw[Ba (by omega)]at ha;rw[Ba (by rw[<-h.1];omega),<-h.1]at hb;exact h'.2 _ a b ha hb
structure dO (P:Program) (w:World) (base:Nat) (spare:Nat->Bool) (held:Bool) {H:Type} (henc:TypeId×Value->H) (Fz:Nat->Option AO) (N:Nat) (t:TypeId) (X:Type) (enc:X->List SV):Prop where
 one:∀fuel cs x,DataW.trod henc P w base spare held fuel t cs=some x->∃y:X,gJ Fz N (enc y) cs
variable (enc) in
abbrev ka (P:Program) (w:World) (base:Nat) (spare:Nat->Bool) (held:Bool) (Fz:Nat->Option AO) (N:Nat) (t:TypeId) (X:Type) (e:X->List SV):Prop:=dO P w base spare held enc Fz N t X e
theorem dO.bool {t:TypeId} (ht:P.underlying t=some .bool):ka enc P w base spare held Fz N t Bool (fun b=>[.bool b]):=by
 refine⟨fun fuel cs x h=>?_⟩;obtain⟨b,rfl,_⟩:=DataW.trod_bool ht h;exact⟨b, .cons (.bool b) .nil⟩
theorem dO.int {t:TypeId} {k:IntKind} (ht:P.underlying t=some (.int k)):ka enc P w base spare held Fz N t Int (fun b=>[.int k b]):=by
 refine⟨fun fuel cs x h=>?_⟩;obtain⟨b,rfl,_⟩:=DataW.trod_int ht h;exact⟨b, .cons (.int k b) .nil⟩
theorem dO.str {t:TypeId} (ht:P.underlying t=some .string):ka enc P w base spare held Fz N t (List UInt8) (fun b=>[.str b]):=by
 refine⟨fun fuel cs x h=>?_⟩;obtain⟨s,rfl,_⟩:=DataW.trod_string ht h;exact⟨s.data.toList, .cons (.str _) .nil⟩
theorem dO.map {t:TypeId} {X Y:Type} {e:X->List SV} {e':Y->List SV} (h:ka enc P w base spare held Fz N t X e) (f:X->Y) (hf:∀x,e' (f x)=e x):ka enc P w base spare held Fz N t Y e':=by
 refine⟨fun fuel cs x hx=>?_⟩;obtain⟨y,hy⟩:=h.one fuel cs x hx;exact⟨f y,by rw[hf];exact hy⟩
inductive lB (P:Program) (w:World) (base:Nat) (spare:Nat->Bool) (held:Bool) {H:Type} (henc:TypeId×Value->H) (Fz:Nat->Option AO) (N:Nat):Nat->List Field->(X:Type)->(X->List SV)->Prop
 |nil {o:Nat}:lB P w base spare held henc Fz N o [] Unit (fun _=>[])
 |cons {o:Nat} {f:Field} {fs:List Field} {X Y:Type} {e:X->List SV} {e':Y->List SV} (ho:f.offset=o) (h:dO P w base spare held henc Fz N f.type X e) (t:lB P w base spare held henc Fz N (o+P.cellsOf f.type) fs Y e'):
  lB P w base spare held henc Fz N o (f::fs) (X×Y) (fun y=>e y.1++e' y.2)
def mY (P:Program):List Field->Nat
 |[]=>0
 |f::fs=>P.cellsOf f.type+mY P fs
theorem lB.run {o:Nat} {fs:List Field} {X:Type} {e:X->List SV} (h:lB P w base spare held enc Fz N o fs X e):∀(cs:List Value) (n:Nat),cs.length=o+mY P fs->
  (∀f∈fs,∃x,DataW.trod enc P w base spare held n f.type ((cs.drop f.offset).take (P.cellsOf f.type))=some x)->∃y:X,gJ Fz N (e y) (cs.drop o):=by
 induction h with
 |nil=>
  intro cs n hl _;refine⟨(),?_⟩;simp only[mY]at hl;rw[List.drop_of_length_le (by omega)];exact .nil
 | @cons o f fs X Y e e' ho h t ih=>
  intro cs n hl hf;simp only[mY]at hl;obtain⟨x,hx⟩:=hf f An;obtain⟨y,hy⟩:=h.one n _ _ hx;obtain⟨z,hz⟩:=ih cs n (by omega) (fun g hg=>hf g (Ao _ hg));refine⟨(y,z),?_⟩;have:=hy.append hz;rw[ho]at this;rw[show List.drop o cs=List.take (P.cellsOf f.type) (List.drop o cs)++List.drop (o+P.cellsOf f.type) cs by rw[<-EG,BV]];exact this
theorem dO.struct {t:TypeId} {fs:Array Field} {X:Type} {e:X->List SV} (ht:P.underlying t=some (.struct fs)) (hc:P.cellsOf t=mY P fs.toList) (h:lB P w base spare held enc Fz N 0 fs.toList X e):ka enc P w base spare held Fz N t X e:=by
 refine⟨fun fuel cs x hx=>?_⟩;obtain⟨xs,n,_,_,hl,hn,hg⟩:=DataW.trod_struct ht hx;have:=h.run cs n (by rw[hl,hc];simp) (fun f hf=>by
  obtain⟨i,hi⟩:=List.getElem?_of_mem hf;have h1:=hg i f (by simpa using hi);have hlt:i<fs.size:=by
   have:=(Ab.1 hi).1;simpa using this
  rw[Af (by omega)]at h1;exact⟨_,h1⟩)
 simpa using this
end
end Go.Sy
namespace Go.Sy
open Go.Am Go.RowKit
theorem WS {Fz:Nat->Option AO} {N:Nat} {l:List SV} {cs:Array Value} (h:gJ Fz N l cs.toList):aT Fz (.agg l) (dB N (.agg cs)):=by
 unfold dB;refine .agg (by simpa using h.1) (fun i c v hc hv=>?_);rw[Az]at hv;obtain⟨u,hu,rfl⟩:=As.1 hv;exact h.2 i c u hc hu
end Go.Sy
namespace Go.Sy
open Go.Am Go.RowKit
variable [Inhabited aL]
section
variable {H:Type} {enc:TypeId×Value->H} {P:Program} {tab:bB} {w:World} {base:Nat} {spare:Nat->Bool} {held:Bool}
theorem L7 {a:Addr} {k:Nat} {u:Value} (hs:a.spot=none) (h:w.cell? (a.add k)=some u):∃arr e fz,w.heap[a.block]? =some (.cells arr e fz)/\arr[a.off+k]? =some u:=by
 obtain⟨b,o,s⟩:=a;simp only at hs;subst hs;have e2:(⟨b,o,none⟩:Addr).add k=⟨b,o+k,none⟩:=by unfold Addr.add;split<;>simp_all
 rw[e2]at h;unfold World.cell? at h;split at h
 . rename_i arr e fz hb;simp only[Bc,Ak,AB]at h;exact⟨arr,e,fz,hb,h⟩
 . cases h
theorem dO.slice {t e n:Nat} (ht:P.underlying t=some (.slice e)) (hn:P.cellsOf e=n) (h0:0<n) {X:Type} {ex:X->List SV} (hx:∀x,(ex x).length=n)
   (h:ka enc P w base spare held (bT tab w).get w.heap.size e X ex):ka enc P w base spare held (bT tab w).get w.heap.size t (List X) (fun L=>[.ar X L ex]):=by
 refine⟨fun fuel cs x hd=>?_⟩;rcases DataW.trod_slice ht hd with⟨rfl,_⟩|⟨a,len,cap,elems,rest,m,_,rfl,_,hb,hle,hc,hel,hi,_,_⟩
 . exact⟨[], .cons (.bX rfl (.inl rfl)) .nil⟩
 . have each:∀i:Fin len,∃y:X,∃cs',w.cells? base (a.add (i.val*n)) n=some cs'/\gJ (bT tab w).get w.heap.size (ex y) cs':=by
     intro i;have h1:=hi i.val i.isLt;rw[Af (by rw[hel];exact i.isLt)]at h1;obtain⟨cs',h2,h3⟩:=Ez.1 h1;rw[hn]at h2;obtain⟨y,hy⟩:=h.one _ _ _ h3;exact⟨y,cs',h2,hy⟩
   obtain⟨f,hf⟩:=Classical.skolem.1 each;by_cases hl:len=0
   . subst hl;exact⟨[], .cons (.bX rfl (.inr (.inr ⟨some a,cap,xi _ _ _⟩))) .nil⟩
   . have cell:∀(i:Fin len) (j:Nat) v,(ex (f i))[j]? =some v->∃u,w.cell? ((a.add (i.val*n)).add j)=some u/\aT (bT tab w).get v (cQ w.heap.size u):=by
      intro i j v hv;obtain⟨cs',h2,h3⟩:=hf i;have hj:j<n:=by rw[<-hx (f i)];exact(Ab.1 hv).1
      unfold World.cells? at h2;split at h2
      . have h4:=mapM_some_get h2 j j (by simp[hj]);have hlt:j<cs'.length:=by rw[<-h3.1,hx];exact hj
        rw[Af hlt]at h4;exact⟨_,h4,h3.2 j v _ hv (Af hlt)⟩
      . cases h2
     have hadd:∀i j,(a.add i).add j=a.add (i+j):=by
      intro i j;unfold Addr.add;by_cases hi:i=0
      . subst hi;simp
      . by_cases hj:j=0
        . subst hj;simp[hi]
        . simp[hi,hj,Dd]
     have hl0:0<(ex (f ⟨0,by omega⟩)).length:=by rw[hx (f ⟨0,by omega⟩)];exact h0
     obtain⟨v0,hv0⟩:∃v,(ex (f ⟨0,by omega⟩))[0]? =some v:=⟨_,Af hl0⟩;obtain⟨u0,hu0,_⟩:=cell ⟨0,by omega⟩ 0 v0 hv0;rw[hadd]at hu0;have hspot:a.spot=none:=by
      have:=World.cell?_spot hu0;simpa [Addr.add]using this
     obtain⟨arr,et,fz,hblk,_⟩:=L7 hspot hu0;have hcell:∀(i:Nat) x (j:Nat) v,(List.ofFn f)[i]? =some x->(ex x)[j]? =some v->∃u,arr[a.off+i*n+j]? =some u/\aT (bT tab w).get v (cQ w.heap.size u):=by
      intro i x j v hx' hv;have hil:i<len:=by have:=(Ab.1 hx').1;simpa using this
      have hxe:x=f ⟨i,hil⟩:=by
        rw[Af (by simpa using hil)]at hx';simpa using(Dj hx').symm
      subst hxe;obtain⟨u,hu,hs⟩:=cell ⟨i,hil⟩ j v hv;rw[hadd]at hu;obtain⟨arr',et',fz',hblk',hu'⟩:=L7 hspot hu;rw[hblk]at hblk'
      cases hblk';exact⟨u,by rw[Dd];exact hu',hs⟩
     refine⟨List.ofFn f, .cons ?_ .nil⟩;have hspec:(⟨a.block,a.off,none⟩:Addr)=a:=by obtain⟨b,o,s⟩:=a;simp only at hspot;subst hspot;rfl
     rw [<-hspec];have hlast:a.off+(List.ofFn f).length*n<=arr.size:=by
      have hl1:n - 1<(ex (f ⟨len - 1,by omega⟩)).length:=by rw[hx (f ⟨len - 1,by omega⟩)];omega
      obtain⟨v1,hv1⟩:∃v,(ex (f ⟨len - 1,by omega⟩))[n - 1]? =some v:=⟨_,Af hl1⟩;obtain⟨u1,hu1,_⟩:=hcell (len - 1) (f ⟨len - 1,by omega⟩) (n - 1) v1 (by rw[Af (by simp;omega)];simp) hv1;have:=(Ae.1 hu1).1;simp only[List.length_ofFn];have e3:len*n=(len - 1)*n+n:=by
        conv=>lhs;rw[show len=(len - 1)+1 by omega]
        rw[BB,DO]
      omega
     exact xa hblk h0 (fun x _=>hx x) hlast (by simp) hle hcell
end
end Go.Sy
