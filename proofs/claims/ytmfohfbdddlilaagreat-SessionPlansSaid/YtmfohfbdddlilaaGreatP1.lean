/- Part 1: an evaluator, proved sound, and its use at this seat; no condition. -/
import Derived.Laws.Externs
import Derived.Lib.Bytealg
import Derived.Test.YtmfohfbdddlilaaGreatProg
import Derived.KernelRfl
import Derived.Test.YtmfohfbdddlilaaGreatP0
set_option linter.unusedSimpArgs false
set_option linter.unusedVariables false
set_option linter.unusedSectionVars false
set_option linter.deprecated false
set_option maxRecDepth 100000
namespace Go.Am
open Go.RowKit
section
variable [Inhabited aL]
section
variable {P:Program} {tab:bC} (ok:bX P tab) {sub:FuncId->List AV->AH->R (List (AV×AH))} (hsub:lh P tab sub) (hext:lg P tab)
variable {K:KS} {base:List Frame}
variable {ops:Array Oper} {fr0:ak} {cs:List ak} {k:List bQ} {lo:Nat}
def Fin (P:Program) (fr0:ak) (cs:List ak) (k:List bQ) (base:List Frame) (K:KS) (lo:Nat) (sF:DS) (D:Nat->Prop) (E:Env) (frC:Frame) (csC:List Frame) (w:World):Prop:=
 ∃frC' csC' w' D' E',Steps P (lone frC csC w) (lone frC' csC' w')/\Rel D' E' K {fr:={fr0 with tmps:=sF.ts,todo:=k},cs,h:=sF.h} base frC' csC' w'/\aw D E E'/\(∀i,D i->D' i)/\Kept K w w'/\(∀i,D' i->D i\/lo<=i)/\lo<=sF.h.next
def nS (tab:bC) (sub:FuncId->List AV->AH->R (List (AV×AH))) (ops:Array Oper) (nt:Nat) (s sF:DS):Prop:=
 (jC s.aR 0 ops.toList=[]/\sF=s)\/ ∃c o n s2,jC s.aR 0 ops.toList=[(c,o)]/\C7 tab sub ops nt c o s= .ok s2/\um tab sub ops nt n s2= .ok sF
theorem J6 {nt n:Nat} {s sF:DS} (h:um tab sub ops nt n s= .ok sF):∃s1,kV tab ops nt 0 ops.toList s= .ok s1/\nS tab sub ops nt s1 sF:=by
 cases n with
 |zero=>grind [um]
 |succ n=>
  obtain⟨s1,h1,h2⟩:=ax.1 h;refine⟨s1,h1,?_⟩;split at h2
  . rename_i hc;obtain⟨_,_,h3⟩:=ax.1 h2
    cases h3;exact .inl ⟨hc,rfl⟩
  . rename_i c o hc;obtain⟨s2,h3,h4⟩:=ax.1 h2;exact .inr ⟨c,o,n,s2,hc,h3,h4⟩
  grind
include ok hsub hext in
theorem NM (hm:fr0.mode= .run) (hlt:pA 0 ops.toList=true):∀(fuel t:Nat) (listed:Array Bool) (s sF:DS) (D:Nat->Prop) (E:Env) (tsR:T AV) (hR:AH) (frC:Frame) (csC:List Frame) (w:World),
  listed.size=ops.size->nQ ops.size listed<=fuel->nS tab sub ops fr0.nt s sF->dx tab ops fr0.nt fr0.tmps lo s (eG listed)->
  eN ops fr0 cs k base s (eG listed) D E K tsR hR (Region.linearise.go .any ops fuel t listed []) frC csC w->Fin P fr0 cs k base K lo sF D E frC csC w:=by
 have hend:∀(listed:Array Bool) (s sF:DS) (D:Nat->Prop) (E:Env) (tsR:T AV) (hR:AH) (frC:Frame) (csC:List Frame) (w:World),(∀j,j<ops.size->eG listed j)->
    nS tab sub ops fr0.nt s sF->dx tab ops fr0.nt fr0.tmps lo s (eG listed)->eN ops fr0 cs k base s (eG listed) D E K tsR hR [] frC csC w->Fin P fr0 cs k base K lo sF D E frC csC w:=by
  intro listed s sF D E tsR hR frC csC w hall htodo H Q;rcases htodo with⟨_,rfl⟩|⟨c,o,n,s2,hc,_,_⟩
  . have hts:∀t,tsR.get t=sF.ts.get t:=by
      intro t;by_cases hw:∃(j:Nat) (oj:Oper),ops[j]? =some oj/\oj.dst=some t
      . obtain⟨j,oj,h1,h2⟩:=hw;exact Q.oL j oj t (hall j (Ad.1 h1).1) h1 h2
      . rw[Q.oK t (fun j oj _ h1 h2=>hw ⟨j,oj,h1,h2⟩),H.pE t (fun j oj _ h1 h2=>hw ⟨j,oj,h1,h2⟩)]
    have hst:∀E',Go.step P (lone (bH E' {fr0 with tmps:=tsR,todo:= .inRegion ops []::k}) csC w)= .next (lone (bH E' {fr0 with tmps:=tsR,todo:=k}) csC w):=
      fun E'=>step_lone_go (by simp[stepG,stepG.exec,bH,hm,fu,dO])
    have hconc:∀E',bH E' {fr0 with tmps:=sF.ts,todo:=k}=bH E' {fr0 with tmps:=tsR,todo:=k}:=by
      simp_all[iu,uZ,bH]
    have hfr:=(Q.rel.all E (aw.refl _ _)).2.1;refine⟨bH E {fr0 with tmps:=tsR,todo:=k},csC,w,D,E, .one (by rw[<-hfr];grind),⟨fun E' he=>?_,fun i hi=>?_,?_,Q.rel.wf.2⟩,aw.refl _ _,fun _ h=>h,Kept.refl K w,fun i hi=> .inl hi,H.nx⟩
    . obtain⟨g1,g2,g3⟩:=Q.rel.all E' he;refine⟨g1.same (fun i ob h=>(Q.hr i ob).2 ⟨h,fun x hx _=>?_⟩) (by simp only;rw[Q.hn];omega),?_,g3⟩
      . obtain⟨o,ho⟩:=H.op _ (H.al x hx).2.1;grind
      grind [rV]
    . have:=Q.rel.eC i hi;rw[Q.hn]at this;omega
    . intro t ht;have:=Q.rel.wf.1 t ht;grind
  . have hcm:(c,o)∈jC s.aR 0 ops.toList:=by rw[hc];grind
    obtain⟨j',h1,h2,h3⟩:=IE _ _ _ _ _ hcm;have hlt':c<ops.size:=by
      have:=(Ae.1 h2).1;grind
    have:=H.cx c (hall c hlt');rw[(oY h3).1]at this;grind
 intro fuel;induction fuel with
 |zero=>
  grind [Ld,Region.linearise.go]
 | succ fuel ih=>
  intro t listed s sF D E tsR hR frC csC w hsz hu htodo H Q;change eN ops fr0 cs k base s (eG listed) D E K tsR hR (match(Region.ready .any ops listed)[t % (Region.ready .any ops listed).length]? with
    |some i=>Region.linearise.go .any ops fuel (t / (Region.ready .any ops listed).length) (listed.setIfInBounds i true) [i]
    |none=>[].reverse) frC csC w at Q
  have hget:∀j,j<ops.size->(listed.getD j true=false↔¬eG listed j):=by
    grind [eG]
  cases hi:(Region.ready .any ops listed)[t % (Region.ready .any ops listed).length]? with
  | none=>
    rw[hi]at Q;have hnil:Region.ready .any ops listed=[]:=by
      cases hr:Region.ready .any ops listed with
      |nil=>rfl
      | cons x xs=>
        rw[hr]at hi;have hlt:t % (x::xs).length<(x::xs).length:=Nat.mod_lt _ (by simp);rw[Ej]at hi;omega
    have hall:∀j,j<ops.size->eG listed j:=by
      intro j;induction j using Nat.strongRecOn with
      | _ j ihj=>
        intro hj;by_cases hx:eG listed j
        . exact hx
        . have hm':j∈Region.ready .any ops listed:=by
           rw[mem_ready];refine⟨(hget j hj).2 hx,ops[j],AX hj,?_⟩;intro e he hb;have hp:e.on∈iC ops[j]:=Av.2 ⟨e,AE.2 ⟨by grind,hb⟩,rfl⟩;have hlt':=K4 ops.toList 0 hlt j ops[j] (by grind) e.on hp;grind
          rw[hnil]at hm';grind
    grind
  | some i =>
    rw[hi]at Q;simp only at Q;rw[linearise_go_acc,DM,Dn]at Q;obtain⟨hl1,o,ho,hdeps⟩:=mem_ready.1 (Bz hi);have hin:i<ops.size:=(Ad.1 ho).1;have hx:=(hget i hin).1 hl1;have hready:∀p∈iC o,eG listed p:=by
      intro p hp;obtain⟨e,he,rfl⟩:=Av.1 hp;grind
    have hsz':(listed.setIfInBounds i true).size=ops.size:=by grind
    have hu':nQ ops.size (listed.setIfInBounds i true)<=fuel:=by
      have:=Mf hin (by omega) hx;omega
    have hX':eG (listed.setIfInBounds i true)=fun j=>eG listed j\/j=i:=CC (by omega)
    have hfin:∀(s':DS),nS tab sub ops fr0.nt s' sF->dx tab ops fr0.nt fr0.tmps lo s' (fun j=>eG listed j\/j=i)->
        sx P ops fr0 cs k base s' (fun j=>eG listed j\/j=i) D E K lo (Region.linearise.go .any ops fuel (t / (Region.ready .any ops listed).length) (listed.setIfInBounds i true) []) frC csC w->Fin P fr0 cs k base K lo sF D E frC csC w:=by
      intro s' htd H' hc;obtain⟨tsR',hR',frC',csC',w',D',E',c1,c2,c3,c4,c5,c6⟩:=hc;obtain⟨frF,csF,wF,DF,EF,f1,f2,f3,f4,f5,f6,f7⟩:=ih _ (listed.setIfInBounds i true) s' sF D' E' tsR' hR' frC' csC' w' hsz' hu' htd (by rw[hX'];exact H') (by rw[hX'];exact c2);exact⟨frF,csF,wF,DF,EF,c1.trans f1,f2,c3.trans f3 c4,fun x hx=>f4 x (c4 x hx),c5.trans f5,fun x hx=>(f6 x hx).elim (c6 x) .inr,f7⟩
    by_cases hC:(s.aR.get i).isSome=true
    . exact hfin s htodo (H.ti hC ho hready) (Jq ok H Q hm ho hC hx hready)
    . have hr:isReady s.aR i o=true:=by
        unfold isReady;simp only[Ac,AJ];exact⟨by simp_all,fun p hp=>H.cx p (hready p hp)⟩
      have hcm:(i,o)∈jC s.aR 0 ops.toList:=by
        have:=Kw ops.toList 0 s.aR i o (by grind) (by grind);grind
      rcases htodo with⟨hc,_⟩|⟨c,o',n,s2,hc,hd,hloop⟩
      . rw[hc]at hcm;grind
      . rw [hc]at hcm;rcases Ak.1 hcm with e|hcm
        . cases e;obtain⟨H2,tsR',hR',frC',csC',w',D',E',c1,c2,c3,c4,c5,c6⟩:=Vg ok hsub hext H Q hm ho hr hd hready;obtain⟨s3,hpass,htd3⟩:=J6 hloop;have hpl:∀j o,ops.toList[j]? =some o->ops[0+j]? =some o:=by
           grind
          obtain⟨hR3,Q3⟩:=wu ops.toList 0 s2 s3 hR' hpl hpass H2 c2;exact hfin s3 htd3 (vI ops.toList 0 s2 s3 hpl hpass H2) ⟨tsR',hR3,frC',csC',w',D',E',c1,Q3,c3,c4,c5,c6⟩
        grind
end
end
section
variable [Inhabited aL]
section
variable {P:Program} {tab:bC} (ok:bX P tab) {sub:FuncId->List AV->AH->R (List (AV×AH))} (hsub:lh P tab sub) (hext:lg P tab)
theorem rM (n j:Nat):¬eG (Array.replicate n false) j:=by
 unfold eG;rw[Dd,E5];split<;>simp
include ok hsub hext in
theorem zB (hmix:P.follows .mixedOrders=true):C8 P tab sub:=by
 intro fr cs h id ops k ts h' hm ht hd D E K base frC csC w hR;obtain⟨_,hlt,hd1⟩:=ax.1 hd;obtain⟨sF,hloop,hd2⟩:=ax.1 hd1
 cases hd2;have hlt:=dY.1 hlt;let s0:DS:={ts:=fr.tmps,h,aR:= .e,reads:=[],aI:=[]}
 let ord:=w.tape w.drawn (.order frC.fn id)
 let l:=Region.linearise.go .any ops ops.size ord (Array.replicate ops.size false) []
 have hstep:∀E',aw D E E'->Go.step P (lone frC csC w)= .next (lone (bH E' {fr with tmps:=fr.tmps,todo:= .inRegion ops l::k}) csC w.drew):=by
  intro E' he;have e1:=(hR.all E' he).2.1;refine step_lone_go ?_;have hmC:frC.mode= .run:=by rw[<-e1];grind [bH,fu]
  have htC:frC.todo= .code (.region id ops true)::k.map (dO E'):=by rw[<-e1];grind [bH,dO]
  have hrun:(choose (.order frC.fn id)).run P w= .ok ord w.drew:=by
   rfl
  have hsch:Region.schedule (P.follows .mixedOrders) ops ord=l:=by
   simp only[Region.schedule,hmix,D9,Bb];rfl
  have hgoal:bH E' {fr with tmps:=fr.tmps,todo:= .inRegion ops l::k}={frC with todo:= .inRegion ops l::k.map (dO E')}:=by
   rw[<-e1];rfl
  rw[hgoal];grind [stepG,stepG.exec,GStep.bare_go]
 have hdom:=(hR.all E (aw.refl _ _)).1.eC;have H0:dx tab ops fr.nt fr.tmps h.next s0 (eG (Array.replicate ops.size false)):=by
  have hnone:∀j,s0.aR.get j=none:=fun _=>rfl
  refine⟨fun j hj=>absurd hj (rM _ _),fun j a hj=>absurd hj (rM _ _),?_,?_,?_,fun _ _=>rfl,?_,fun x hx=>(by cases hx),Ai _,hR.wf.1,fun x hx=>(by cases hx),hdom⟩
  all_goals grind
 have Q0:eN ops fr cs k base s0 (eG (Array.replicate ops.size false)) D E K fr.tmps h l (bH E {fr with tmps:=fr.tmps,todo:= .inRegion ops l::k}) csC w.drew:=by
  refine⟨⟨fun E' he=>?_,hR.eC,hR.wf⟩,fun i ob=>⟨fun h=>⟨h,fun x hx=>(by cases hx)⟩,fun h=>h.1⟩,rfl,fun j o t hx=>absurd hx (rM _ _),fun _ _=>rfl,fun x hx=>by cases hx⟩;obtain⟨g1,g2,g3⟩:=hR.all E' he;refine⟨g1.drew,?_,g3⟩;have h1:=hstep E' he;rw[hstep E (aw.refl _ _)]at h1;grind [rV]
 obtain⟨s1,hpass,htodo⟩:=J6 hloop;have hpl:∀j o,ops.toList[j]? =some o->ops[0+j]? =some o:=by
  grind
 obtain⟨hR1,Q1⟩:=wu ops.toList 0 s0 s1 h hpl hpass H0 Q0;have H1:=vI ops.toList 0 s0 s1 hpl hpass H0;obtain⟨frC',csC',w',D',E',f1,f2,f3,f4,f5,f6,f7⟩:=NM ok hsub hext hm hlt ops.size ord (Array.replicate ops.size false) s1 sF D E fr.tmps hR1 _ csC w.drew (by simp)
  (by grind [nQ]) htodo H1 Q1
 exact⟨frC',csC',w',E',D',Steps.head (hstep E (aw.refl _ _)) f1,f2,f3,f4,(Kept.drew K w).trans f5,f7,f6⟩
end
end
section
variable [Inhabited aL]
def nO (tag:Nat) (fn:Func):Array Value->Sem Value:=
 match tag with
 |1=>Extern.BytealgCompare.compare
 |2=>Extern.AbiNoEscape.same
 |3=>Extern.BytealgMakeNoZero.makeNoZero fn.params fn.resultTypes
 |5=>Extern.BytealgIndexByte.indexByte
 |6=>Extern.BytealgCount.count
 |_=>Extern.SlicesOverlaps.overlaps fn.params fn.resultTypes
def gF (P:Program) (tab:bC):Prop:=∀f tag fn,tab.ext.get f=some tag->tab.fns.get f=some fn->Extern.findNext fn=none/\Extern.find fn=some (nO tag fn)
theorem WV (ps rs:Array TypeId) (n:Int):Extern.BytealgMakeNoZero.makeNoZero ps rs #[.int .i64 n]=(do
 let some t:=rs[0]? |stuck "bytealg.MakeNoZero: no result type"
 let .slice elem<-underlying t|stuck "bytealg.MakeNoZero: slice type expected"
 if n<0||n>2 ^ 48 then runtimePanic (.error "makeslice: len out of range")
 let cap<-choose (.appendCap n.toNat 0 elem)
 askRoom cap
 let bytes<-choose (.extern "internal/bytealg.MakeNoZero.bytes" 0)
 let a<-Go.newRow elem (Extern.BytealgMakeNoZero.digits cap bytes #[])
 pure (.slice (some a) n.toNat cap)):=rfl
theorem ML (ps rs:Array TypeId) (a b:Option Addr) (la lb ca cb:Nat):Extern.SlicesOverlaps.overlaps ps rs #[.slice a la ca, .slice b lb cb]=(do
 let some t:=ps[0]? |stuck "slices.overlaps: no parameter types"
 let .slice elem<-underlying t|stuck "slices.overlaps: slice type expected"
 let size<-sizeOf elem
 match a,b with
 | some a,some b=>
  if la=0\/lb=0\/size=0 then pure (.bool false)
  else if a.block !=b.block&&(<-Go.frozen a)&&(<-Go.frozen b)then unsupported .addressObserved
  else do
   if a.block !=b.block then do
    noView a;noView b
    if<-mayBeOne a b then return .bool ((<-choose (.extern "sameAddr.stringBytes" 2))==1)
   pure (.bool (a.block==b.block&&a.off<b.off+lb*size&&b.off<a.off+la*size))
 |_,_=>pure (.bool false)):=rfl
theorem ZA (b c:Value):Extern.BytealgIndexByte.indexByte #[b,c]=(do
 let b<-Extern.Bytes.bytesOf b
 let c<-Extern.Bytes.asByte c
 match(List.range b.size).find? fun i=>b[i]! ==c with
 |some i=>pure (Go.goInt i)
 |none=>pure (Go.goInt (-1))):=rfl
theorem RS:∀(n t:Nat) (acc:Array Value),(Extern.BytealgMakeNoZero.digits n t acc).size=acc.size+n:=by
 intro n;induction n with
 |zero=>intro t acc;rfl
 |succ n ih=>grind [Extern.BytealgMakeNoZero.digits]
section
variable {P:Program} {tab:bC} (ok:bX P tab) (het:gF P tab)
include ok het
theorem Zy : lg P tab:=by
 intro f fn args h v h' hfn hb hx w;have hP:=ok.fns f fn hfn;unfold wM at hx;split at hx
 . rename_i tag htag;obtain⟨hn,he⟩:=het f tag fn htag hfn;have hrun:∀a (w:World),(callFunc f a).run P w=((nO tag fn a).run P w).andThen fun v w'=> .ok (.value v) w':=fun a w=>run_callFunc_extern hP (ok.vw f fn hfn) (by rw[hb];rfl) hn he a w
   unfold extern at hx;split at hx
   . cases hx;refine⟨(0,0),fun E K H _=>⟨by omega,w,?_,H,Kept.refl K w⟩⟩;rw[hrun];rfl
   . cases hx;refine⟨(0,0),fun E K H _=>⟨by omega,w,?_,H,Kept.refl K w⟩⟩;rw[hrun];rfl
   ·
     rename_i n;obtain⟨t,ht,hx1⟩:=ax.1 hx;obtain⟨d,hd,hx2⟩:=ax.1 hx1;have hPt:=ok.und t d (cZ.1 hd);have ht:=cZ.1 ht;split at hx2
     . rename_i e;obtain⟨z,hz,hx2'⟩:=ax.1 hx2;obtain⟨_,hle,hx3⟩:=ax.1 hx2';obtain⟨⟨h1,b⟩,hrow,hx4⟩:=ax.1 hx3
       cases hx4;have hle:=dY.1 hle;simp only[Ac]at hle;have hz1:=Ag hle.2;have hle:=Al hle.1;obtain⟨sz,hsz,rfl,rfl⟩:=iJ hrow;rw[hz]at hsz
       cases hsz;refine⟨(w.heap.size,grownCap w n 0 e),fun E K H hE=>?_⟩;obtain⟨hE1,hE2⟩:=hE (by simp);refine⟨by simp,w.drew.drew.alloc (.cells (Extern.BytealgMakeNoZero.digits (grownCap w n 0 e) ((Question.extern "internal/bytealg.MakeNoZero.bytes" 0).cut (w.drew.tape w.drew.drawn (.extern "internal/bytealg.MakeNoZero.bytes" 0))) #[]) e),?_,?_,?_⟩
       . rw[hrun];have h1:¬((n:Int)<0):=by omega
         have h2:¬((n:Int)>2 ^ 48):=by
           have:(2:Int) ^ 48=281474976710656:=by decide
           rw[this];omega
         have hq:(Question.appendCap n 0 e).cut (w.tape w.drawn (.appendCap n 0 e))=grownCap w n 0 e:=rfl;have hor:((decide ((n:Int)<0))||(decide ((n:Int)>2 ^ 48)))=false:=by rw[Bq h1,Bq h2];rfl
         show(((Extern.BytealgMakeNoZero.makeNoZero fn.params fn.resultTypes #[.int .i64 (n:Int)]).run P w).andThen fun v w'=> .ok (Next.value v) w')=_
         rw[WV];simp only[ht,Sem.run_bind,underlying,run_program,Result.andThen_ok,hPt,Sem.run_pure,hor,Ao,AK,run_choose,Question.forced,Dq,hq,World.drew_eq,run_askRoom,p7];simp_all[ah,gq.val]
       . exact H.drew.drew.new (by simp_all) ⟨_,_,rfl,⟨_,rfl⟩,by grind [RS],rfl⟩
       . exact((Kept.drew K w).trans (Kept.drew K w.drew)).trans (Kept.alloc (by simpa using H.kb) _)
     grind
   ·
     obtain⟨t,ht,hx1⟩:=ax.1 hx;obtain⟨d,hd,hx2⟩:=ax.1 hx1;have hPt:=ok.und t d (cZ.1 hd);have ht:=cZ.1 ht;split at hx2
     . obtain ⟨sz,hsz,hx3⟩:=ax.1 hx2;obtain⟨_,hck,hx4⟩:=ax.1 hx3;clear hx hx1 hx2 hx3;have hs0:sz≠0:=by
         intro e;simp_all[R.check]
       have hnone:∀(E:Env) (a b:Option Addr) (la lb ca cb:Nat),(a=none\/b=none)->((nO 4 fn #[.slice a la ca, .slice b lb cb]).run P w)= .ok (.bool false) w:=by
         intro E a b la lb ca cb hab;show(Extern.SlicesOverlaps.overlaps fn.params fn.resultTypes #[.slice a la ca, .slice b lb cb]).run P w=_
         rw[ML];simp only[ht,Sem.run_bind,underlying,run_program,Result.andThen_ok,hPt,Sem.run_pure,kp ok hsz];rcases hab with rfl|rfl
         all_goals simp_all
       split at hx4
       . cases hx4;refine⟨(0,0),fun E K H _=>⟨by omega,w,?_,H,Kept.refl K w⟩⟩;rw[hrun];simp only[cp,dF,ah];rw[hnone E _ _ _ _ _ _ (.inl rfl)];rfl
       . cases hx4;refine⟨(0,0),fun E K H _=>⟨by omega,w,?_,H,Kept.refl K w⟩⟩;rw[hrun];simp only[cp,dF,ah];rw[hnone E _ _ _ _ _ _ (.inl rfl)];rfl
       . cases hx4;refine⟨(0,0),fun E K H _=>⟨by omega,w,?_,H,Kept.refl K w⟩⟩;rw[hrun];simp only[cp,dF,ah];rw[hnone E _ _ _ _ _ _ (.inr rfl)];rfl
       . rename_i a i n ca b j m cb;split at hx4
         . rename_i ha hb';have hsame:h'=h:=by
            cases hc:(Nat.beq n 0||Nat.beq m 0)<;>rw[hc]at hx4<;>cases hx4<;>rfl
           subst hsame;refine⟨(0,0),fun E K H _=>⟨by omega,w,?_,H,Kept.refl K w⟩⟩;rw[hrun];simp only[cp,dF,ah];have hgo:((nO 4 fn #[.slice (some ⟨E.aY a,i,none⟩) n (ca.val (E.cap a)), .slice (some ⟨E.aY b,j,none⟩) m (cb.val (E.cap b))]).run P w)= .ok (ah E v) w:=by
            show(Extern.SlicesOverlaps.overlaps fn.params fn.resultTypes #[.slice (some ⟨E.aY a,i,none⟩) n (ca.val (E.cap a)), .slice (some ⟨E.aY b,j,none⟩) m (cb.val (E.cap b))]).run P w=_
            rw[ML];simp only[ht,Sem.run_bind,underlying,run_program,Result.andThen_ok,hPt,Sem.run_pure,kp ok hsz];by_cases hz:n=0\/m=0
            . rw[An (by rcases hz with h|h<;>simp[h])];have:(Nat.beq n 0||Nat.beq m 0)=true:=by
                rcases hz with rfl|rfl<;>simp
              rw[this]at hx4
              cases hx4;rfl
            . rw [Aj (by omega)];have h1:Nat.beq n 0=false:=by
                grind [Nat.eq_of_beq_eq_true]
              have h2:Nat.beq m 0=false:=by
                grind [Nat.eq_of_beq_eq_true]
              rw[h1,h2]at hx4
              cases hx4;have hfa:=wx H ha i;have hfb:=wx H hb' j;have hfrz:(Go.frozen ⟨E.aY a,i,none⟩).run P w= .ok false w:=by simp_all
              by_cases hab:a=b
              . subst hab;simp[ah];congr 1<;>(rw[AN];simp)
              . have hne:E.aY a≠E.aY b:=fun e=>hab (H.inj a b _ _ ha hb' (by simp[AO.ro]) e)
                have hb0:Nat.beq a b=false:=by
                 grind [Nat.eq_of_beq_eq_true]
                simp[ah,hne,hb0,hfrz,vR H ha,vR H hb',Ie H ha hb']
           rw[hgo];rfl
         grind
       grind
     grind
   ·
     rename_i a c
     cases hx;refine⟨(0,0),fun E K H _=>⟨by omega,w,?_,H,Kept.refl K w⟩⟩;rw[hrun];have hgo:(nO 5 fn #[.string ⟨a.toArray⟩, .int .u8 c]).run P w= .ok (.int .i64 (FH ⟨a.toArray⟩ c.toNat.toUInt8)) w:=by
       show(Extern.BytealgIndexByte.indexByte #[.string ⟨a.toArray⟩, .int .u8 c]).run P w=_
       rw[ZA];unfold FH;simp only[Extern.Bytes.bytesOf,Extern.Bytes.asByte,Sem.run_bind,Sem.run_pure,Result.andThen_ok];generalize List.find? (fun i=>(ByteArray.mk a.toArray)[i]! ==c.toNat.toUInt8) (List.range (ByteArray.mk a.toArray).size)=r
       cases r<;>rfl
     simp_all[ah]
   ·
     rename_i a c
     cases hx;refine⟨(0,0),fun E K H _=>⟨by omega,w,?_,H,Kept.refl K w⟩⟩;rw[hrun];have hgo:(nO 6 fn #[.string ⟨a.toArray⟩, .int .u8 c]).run P w= .ok (.int .i64 (a.count c.toNat.toUInt8:Nat)) w:=by
       show(Extern.BytealgCount.count #[.string ⟨a.toArray⟩, .int .u8 c]).run P w=_
       rw[Go.Lib.run_countString];simp[Go.Lib.countByte]
     simp_all[ah]
   grind
 grind
end
end
def T.dH {α:Type}:(Nat->Option α)->T α->T α
 |_, .e=> .e
 |f, .n v l r=> .n (match v with|none=>none|some _=>f 0) (T.dH (fun k=>f (2*k+1)) l) (T.dH (fun k=>f (2*k+2)) r)
def T.all {α:Type} (p:α->Bool):T α->Bool
 | .e=>true
 | .n v l r=>(match v with|none=>true|some a=>p a)&&T.all p l&&T.all p r
theorem Gl {α:Type}:∀(t:T α) (f:Nat->Option α),T.dH f t=t->∀k v,t.get k=some v->f k=some v:=by
 intro t;induction t with
 |e=>grind [vb]
 |n x l r ihl ihr=>
  intro f h k v hk;simp only[T.dH,T.n.injEq]at h;grind [yB]
theorem Qn {α:Type} {p:α->Bool}:∀(t:T α),T.all p t=true->∀k v,t.get k=some v->p v=true:=by
 intro t;induction t with
 |e=>grind [vb]
 |n x l r ihl ihr=>
  intro h k v hk;simp only[T.all,Ac]at h;grind [yB]
theorem bX.of {P:Program} {tab:bC} (h1:tab.und.dH P.underlying=tab.und) (h2:tab.siz.dH (fun t=>(P.info? t).map (·.size))=tab.siz) (h3:tab.byt.dH (fun t=>(P.info? t).map (·.bytes))=tab.byt)
  (h4:tab.lj.dH (fun t=>((P.info? t).bind (·.zero)).map ofConst)=tab.lj) (h5:tab.agg.dH (fun t=>(P.underlying t).map FM)=tab.agg) (h6:tab.held.dH (fun t=>some (P.stoodInHeld t))=tab.held)
  (h7:tab.lr.dH (fun t=>some (P.eqGuardType P.depth t))=tab.lr) (h8:tab.fns.dH (fun f=>P.funcs[f]?)=tab.fns) (h9:tab.fns.all (fun fn=> !(fn.name== "runtime.NumGoroutine"))=true):bX P tab:=by
 refine⟨Gl _ _ h1,?_,?_,?_,?_,?_,?_,Gl _ _ h8,?_⟩
 all_goals grind [Gl,Option.map_eq_some_iff,Option.bind_eq_some_iff,Im,Qn]
theorem gF.of {P:Program} {tab:bC} (l:List (Nat×Nat)) (hl:∀f tag,tab.ext.get f=some tag->(f,tag)∈l) (hf:∀x∈l,∀fn,tab.fns.get x.1=some fn->Extern.findNext fn=none/\Extern.find fn=some (nO x.2 fn)):gF P tab:=
 fun f tag fn h1 h2=>hf (f,tag) (hl f tag h1) fn h2
def fq:AH:={t:= .e,next:=0}
theorem Ko (E:Env) (K:KS) (w:World) (hK:∀b,K b->b<w.heap.size) (hk0:∀b,b<K.b->K b):bR E fq K w:=by
 have h0:∀i,fq.get i=none:=fun i=>rfl
 refine⟨fun i o h=>?_,fun i o h=>?_,fun i j oi oj h=>?_,fun i o h=>?_,hK,fun i o h=>?_,hk0⟩<;>(rw[h0]at h;cases h)
def sX:List (Nat×Nat)->T Nat
 |[]=> .e
 |(f,t)::l=>(sX l).set f (some t)
theorem Tj:∀(l:List (Nat×Nat)) (f tag:Nat),(sX l).get f=some tag->(f,tag)∈l:=by
 intro l;induction l with
 |nil=>grind [sX,vb]
 |cons x l ih=>
  grind [sX,T.bm]
theorem PV {P:Program} {tab:bC} (l:List (Nat×Nat)) (hl:tab.ext=sX l) (hf:∀x∈l,∃fn,tab.fns.get x.1=some fn/\Extern.findNext fn=none/\Extern.find fn=some (nO x.2 fn)):gF P tab:=
 gF.of l (fun f tag h=>Tj l f tag (by rw[<-hl];exact h)) (fun x hx fn h=>by
  grind)
end Go.Am
namespace Go.Proofs
open Go.Am
open Tryz
def nd {α:Type} (x:α) (l r:T α):T α:= .n (some x) l r
def lf {α:Type} (x:α):T α:= .n (some x) .e .e
noncomputable def Pd:T TypeDesc:=(nd t0.desc (nd t1.desc (nd t3.desc (nd t7.desc (.n none .e (nd t47.desc (.n none (lf t143.desc) .e) (.n none .e (lf t239.desc)))) (nd t23.desc (nd t38.desc (nd t71.desc (lf t135.desc) (lf t199.desc)) (.n none (lf t167.desc) .e)) (.n none (.n none .e (lf t215.desc)) .e))) (.n none (.n none (nd t34.desc .e (lf t99.desc)) (.n none (.n none (lf t147.desc) .e) .e)) (nd t27.desc (nd t43.desc .e (.n none .e (lf t217.desc))) (.n none .e (nd t123.desc (lf t187.desc) (lf t251.desc)))))) (nd t5.desc (nd t9.desc (.n none (lf t32.desc) .e) (.n none (nd t41.desc (.n none (lf t137.desc) .e) (nd t104.desc (lf t168.desc) .e)) (.n none (nd t88.desc .e (lf t217.desc)) .e))) (.n none (.n none (nd t36.desc (.n none .e (lf t197.desc)) (lf t101.desc)) (.n none (.n none (lf t148.desc) .e) .e)) (nd t3.desc (nd t44.desc (.n none (lf t141.desc) (lf t204.desc)) .e) .e)))) (nd t2.desc (nd t4.desc (.n none (.n none (nd t32.desc (lf t64.desc) (.n none (lf t160.desc) .e)) (nd t47.desc (.n none (lf t143.desc) (lf t3.desc)) .e)) (nd t23.desc (nd t40.desc (lf t71.desc) (nd t104.desc (lf t168.desc) .e)) (.n none (lf t88.desc) .e))) (.n none (.n none (nd t36.desc .e (nd t100.desc (lf t164.desc) .e)) (nd t52.desc (.n none (lf t148.desc) .e) .e)) (.n none (nd t44.desc (.n none .e (lf t204.desc)) .e) (.n none .e (lf t123.desc))))) (nd t5.desc (.n none (.n none (nd t34.desc .e (.n none (lf t162.desc) .e)) .e) (.n none (nd t41.desc (.n none (lf t137.desc) (lf t202.desc)) (lf t106.desc)) (.n none .e (lf t122.desc)))) (.n none (nd t22.desc (nd t38.desc (lf t70.desc) (lf t102.desc)) .e) (.n none (.n none (.n none (lf t141.desc) .e) .e) (.n none .e (lf t34.desc)))))))
noncomputable def Pc:T Nat:=(nd 1 (nd 1 (nd 1 (nd 4 (.n none .e (nd 11 (.n none (lf 6) .e) (.n none .e (lf 1)))) (nd 3 (nd 8 (nd 4 (lf 1) (lf 1)) (.n none (lf 1) .e)) (.n none (.n none .e (lf 1)) .e))) (.n none (.n none (nd 3 .e (lf 1)) (.n none (.n none (lf 1) .e) .e)) (nd 1 (nd 1 .e (.n none .e (lf 1))) (.n none .e (nd 13 (lf 1) (lf 1)))))) (nd 1 (nd 1 (.n none (lf 2) .e) (.n none (nd 19 (.n none (lf 1) .e) (nd 4 (lf 3) .e)) (.n none (nd 5 .e (lf 1)) .e))) (.n none (.n none (nd 3 (.n none .e (lf 1)) (lf 1)) (.n none (.n none (lf 1) .e) .e)) (nd 1 (nd 3 (.n none (lf 4) (lf 1)) .e) .e)))) (nd 1 (nd 1 (.n none (.n none (nd 2 (lf 1) (.n none (lf 1) .e)) (nd 11 (.n none (lf 6) (lf 1)) .e)) (nd 3 (nd 1 (lf 4) (nd 4 (lf 3) .e)) (.n none (lf 5) .e))) (.n none (.n none (nd 3 .e (nd 1 (lf 1) .e)) (nd 1 (.n none (lf 1) .e) .e)) (.n none (nd 3 (.n none .e (lf 1)) .e) (.n none .e (lf 13))))) (nd 1 (.n none (.n none (nd 3 .e (.n none (lf 1) .e)) .e) (.n none (nd 19 (.n none (lf 1) (lf 1)) (lf 1)) (.n none .e (lf 1)))) (.n none (nd 1 (nd 8 (lf 1) (lf 1)) .e) (.n none (.n none (.n none (lf 4) .e) .e) (.n none .e (lf 3)))))))
noncomputable def O8:T Nat:=(nd 0 (nd 8 (nd 8 (nd 24 (.n none .e (nd 96 (.n none (lf 64) .e) (.n none .e (lf 8)))) (nd 48 (nd 48 (nd 48 (lf 8) (lf 24)) (.n none (lf 8) .e)) (.n none (.n none .e (lf 4)) .e))) (.n none (.n none (nd 24 .e (lf 8)) (.n none (.n none (lf 8) .e) .e)) (nd 8 (nd 24 .e (.n none .e (lf 8))) (.n none .e (nd 128 (lf 8) (lf 8)))))) (nd 1 (nd 16 (.n none (lf 16) .e) (.n none (nd 176 (.n none (lf 8) .e) (nd 32 (lf 24) .e)) (.n none (nd 72 .e (lf 8)) .e))) (.n none (.n none (nd 24 (.n none .e (lf 8)) (lf 8)) (.n none (.n none (lf 8) .e) .e)) (nd 8 (nd 72 (.n none (lf 40) (lf 8)) .e) .e)))) (nd 8 (nd 1 (.n none (.n none (nd 16 (lf 24) (.n none (lf 24) .e)) (nd 96 (.n none (lf 64) (lf 8)) .e)) (nd 48 (nd 24 (lf 48) (nd 32 (lf 24) .e)) (.n none (lf 72) .e))) (.n none (.n none (nd 24 .e (nd 8 (lf 8) .e)) (nd 24 (.n none (lf 8) .e) .e)) (.n none (nd 72 (.n none .e (lf 8)) .e) (.n none .e (lf 128))))) (nd 1 (.n none (.n none (nd 24 .e (.n none (lf 8) .e)) .e) (.n none (nd 176 (.n none (lf 8) (lf 24)) (lf 8)) (.n none .e (lf 8)))) (.n none (nd 24 (nd 48 (lf 24) (lf 8)) .e) (.n none (.n none (.n none (lf 40) .e) .e) (.n none .e (lf 24)))))))
noncomputable def P7:T AV:=(nd (.bJ []) (nd (.bP) (nd (.int .i64 0) (nd (.agg [.int .i64 0, .int .i64 0, .bool false, .int .u8 0]) (.n none .e (nd (.agg [.str [], .str [], .str [], .str [], .bool false, .bool false, .bool false, .bool false, .int .i64 0, .int .i64 0, .int .i64 0]) (.n none (lf (.agg [.str [], .str [], .bool false, .bool false, .str [], .int .i64 0])) .e) (.n none .e (lf (.bq))))) (nd (.agg [.str [], .str [], .str []]) (nd (.agg [.str [], .bool false, .bool false, .bool false, .bool false, .int .i64 0, .int .i64 0, .int .i64 0]) (nd (.agg [.int .i64 0, .int .i64 0, .int .i64 0, .nils]) (lf (.bK)) (lf (.nils))) (.n none (lf (.bP)) .e)) (.n none (.n none .e (lf (.int .u32 0))) .e))) (.n none (.n none (nd (.agg [.int .i64 0, .int .i64 0, .int .i64 0]) .e (lf (.bK))) (.n none (.n none (lf (.bK)) .e) .e)) (nd (.bq) (nd (.nils) .e (.n none .e (lf (.int .u64 0)))) (.n none .e (nd (.agg [.int .i64 0, .str [], .str [], .str [], .str [], .bool false, .bool false, .bool false, .bool false, .int .i64 0, .int .i64 0, .int .i64 0, .nils]) (lf (.int .u64 0)) (lf (.bq))))))) (nd (.int .u8 0) (nd (.str []) (.n none (lf (.agg [.int .i64 0, .int .i64 0])) .e) (.n none (nd (.agg [.int .i64 0, .int .i64 0, .int .i64 0, .int .i64 0, .int .i64 0, .int .i64 0, .int .i64 0, .str [], .str [], .str [], .str [], .bool false, .bool false, .bool false, .bool false, .int .i64 0, .int .i64 0, .int .i64 0, .nils]) (.n none (lf (.bP)) .e) (nd (.agg [.bK, .bK, .bK, .bq]) (lf (.agg [.str [], .bool false, .bool false])) .e)) (.n none (nd (.agg [.int .i64 0, .int .i64 0, .int .i64 0, .nils, .nils]) .e (lf (.int .u64 0))) .e))) (.n none (.n none (nd (.agg [.int .i64 0, .int .i64 0, .int .i64 0]) (.n none .e (lf (.bP))) (lf (.bK))) (.n none (.n none (lf (.agg [.bK])) .e) .e)) (nd (.int .i64 0) (nd (.agg [.nils, .nils, .nils]) (.n none (lf (.agg [.str [], .str [], .bool false, .bool false])) (lf (.bP))) .e) .e)))) (nd (.int .i64 0) (nd (.bool false) (.n none (.n none (nd (.agg [.int .i64 0, .int .i64 0]) (lf (.nils)) (.n none (lf (.nils)) .e)) (nd (.agg [.str [], .str [], .str [], .str [], .bool false, .bool false, .bool false, .bool false, .int .i64 0, .int .i64 0, .int .i64 0]) (.n none (lf (.agg [.str [], .str [], .bool false, .bool false, .str [], .int .i64 0])) (lf (.int .i64 0))) .e)) (nd (.agg [.str [], .str [], .str []]) (nd (.nils) (lf (.agg [.int .i64 0, .int .i64 0, .int .i64 0, .nils])) (nd (.agg [.bK, .bK, .bK, .bq]) (lf (.agg [.str [], .bool false, .bool false])) .e)) (.n none (lf (.agg [.int .i64 0, .int .i64 0, .int .i64 0, .nils, .nils])) .e))) (.n none (.n none (nd (.agg [.int .i64 0, .int .i64 0, .int .i64 0]) .e (nd (.bK) (lf (.bP)) .e)) (nd (.nils) (.n none (lf (.agg [.bK])) .e) .e)) (.n none (nd (.agg [.nils, .nils, .nils]) (.n none .e (lf (.bP))) .e) (.n none .e (lf (.agg [.int .i64 0, .str [], .str [], .str [], .str [], .bool false, .bool false, .bool false, .bool false, .int .i64 0, .int .i64 0, .int .i64 0, .nils])))))) (nd (.int .u8 0) (.n none (.n none (nd (.agg [.int .i64 0, .int .i64 0, .int .i64 0]) .e (.n none (lf (.bP)) .e)) .e) (.n none (nd (.agg [.int .i64 0, .int .i64 0, .int .i64 0, .int .i64 0, .int .i64 0, .int .i64 0, .int .i64 0, .str [], .str [], .str [], .str [], .bool false, .bool false, .bool false, .bool false, .int .i64 0, .int .i64 0, .int .i64 0, .nils]) (.n none (lf (.bP)) (lf (.nils))) (lf (.bP))) (.n none .e (lf (.bP))))) (.n none (nd (.nils) (nd (.agg [.str [], .bool false, .bool false, .bool false, .bool false, .int .i64 0, .int .i64 0, .int .i64 0]) (lf (.nils)) (lf (.bq))) .e) (.n none (.n none (.n none (lf (.agg [.str [], .str [], .bool false, .bool false])) .e) .e) (.n none .e (lf (.agg [.int .i64 0, .int .i64 0, .int .i64 0]))))))))
noncomputable def O7:T Bool:=(nd false (nd false (nd false (nd true (.n none .e (nd true (.n none (lf true) .e) (.n none .e (lf false)))) (nd true (nd true (nd true (lf false) (lf false)) (.n none (lf false) .e)) (.n none (.n none .e (lf false)) .e))) (.n none (.n none (nd true .e (lf false)) (.n none (.n none (lf false) .e) .e)) (nd false (nd false .e (.n none .e (lf false))) (.n none .e (nd true (lf false) (lf false)))))) (nd false (nd false (.n none (lf true) .e) (.n none (nd true (.n none (lf false) .e) (nd true (lf true) .e)) (.n none (nd true .e (lf false)) .e))) (.n none (.n none (nd true (.n none .e (lf false)) (lf false)) (.n none (.n none (lf true) .e) .e)) (nd false (nd true (.n none (lf true) (lf false)) .e) .e)))) (nd false (nd false (.n none (.n none (nd true (lf false) (.n none (lf false) .e)) (nd true (.n none (lf true) (lf false)) .e)) (nd true (nd false (lf true) (nd true (lf true) .e)) (.n none (lf true) .e))) (.n none (.n none (nd true .e (nd false (lf false) .e)) (nd false (.n none (lf true) .e) .e)) (.n none (nd true (.n none .e (lf false)) .e) (.n none .e (lf true))))) (nd false (.n none (.n none (nd true .e (.n none (lf false) .e)) .e) (.n none (nd true (.n none (lf false) (lf false)) (lf false)) (.n none .e (lf false)))) (.n none (nd false (nd true (lf false) (lf false)) .e) (.n none (.n none (.n none (lf true) .e) .e) (.n none .e (lf true)))))))
noncomputable def Pp:T Bool:=(nd false (nd false (nd false (nd false (.n none .e (nd false (.n none (lf false) .e) (.n none .e (lf false)))) (nd false (nd false (nd false (lf false) (lf false)) (.n none (lf false) .e)) (.n none (.n none .e (lf false)) .e))) (.n none (.n none (nd false .e (lf false)) (.n none (.n none (lf false) .e) .e)) (nd false (nd false .e (.n none .e (lf false))) (.n none .e (nd false (lf false) (lf false)))))) (nd false (nd false (.n none (lf false) .e) (.n none (nd false (.n none (lf false) .e) (nd false (lf false) .e)) (.n none (nd false .e (lf false)) .e))) (.n none (.n none (nd false (.n none .e (lf false)) (lf false)) (.n none (.n none (lf false) .e) .e)) (nd false (nd false (.n none (lf false) (lf false)) .e) .e)))) (nd false (nd false (.n none (.n none (nd false (lf false) (.n none (lf false) .e)) (nd false (.n none (lf false) (lf false)) .e)) (nd false (nd false (lf false) (nd false (lf false) .e)) (.n none (lf false) .e))) (.n none (.n none (nd false .e (nd false (lf false) .e)) (nd false (.n none (lf false) .e) .e)) (.n none (nd false (.n none .e (lf false)) .e) (.n none .e (lf false))))) (nd false (.n none (.n none (nd false .e (.n none (lf false) .e)) .e) (.n none (nd false (.n none (lf false) (lf false)) (lf false)) (.n none .e (lf false)))) (.n none (nd false (nd false (lf false) (lf false)) .e) (.n none (.n none (.n none (lf false) .e) .e) (.n none .e (lf false)))))))
noncomputable def Pb:T Bool:=(nd false (nd false (nd false (nd false (.n none .e (nd false (.n none (lf false) .e) (.n none .e (lf false)))) (nd false (nd false (nd false (lf false) (lf false)) (.n none (lf false) .e)) (.n none (.n none .e (lf false)) .e))) (.n none (.n none (nd false .e (lf false)) (.n none (.n none (lf false) .e) .e)) (nd false (nd false .e (.n none .e (lf false))) (.n none .e (nd false (lf false) (lf false)))))) (nd false (nd false (.n none (lf false) .e) (.n none (nd false (.n none (lf false) .e) (nd false (lf false) .e)) (.n none (nd false .e (lf false)) .e))) (.n none (.n none (nd false (.n none .e (lf false)) (lf false)) (.n none (.n none (lf false) .e) .e)) (nd false (nd false (.n none (lf false) (lf false)) .e) .e)))) (nd false (nd false (.n none (.n none (nd false (lf false) (.n none (lf false) .e)) (nd false (.n none (lf false) (lf false)) .e)) (nd false (nd false (lf false) (nd false (lf false) .e)) (.n none (lf false) .e))) (.n none (.n none (nd false .e (nd false (lf false) .e)) (nd false (.n none (lf false) .e) .e)) (.n none (nd false (.n none .e (lf false)) .e) (.n none .e (lf false))))) (nd false (.n none (.n none (nd false .e (.n none (lf false) .e)) .e) (.n none (nd false (.n none (lf false) (lf false)) (lf false)) (.n none .e (lf false)))) (.n none (nd false (nd false (lf false) (lf false)) .e) (.n none (.n none (.n none (lf false) .e) .e) (.n none .e (lf false)))))))
noncomputable def Pa:T Func:=(.n none (.n none (.n none (.n none (nd f15 (.n none (nd f63 (nd f127 (lf f255) .e) (lf f191)) (nd f95 (lf f159) (lf f223))) (.n none (nd f79 (lf f143) (lf f207)) (nd f111 (lf f175) (lf f239)))) (nd f23 (nd f39 (nd f71 (nd f135 (lf f263) .e) (lf f199)) (nd f103 (lf f167) (lf f231))) (nd f55 (.n none (lf f151) (lf f215)) (nd f119 (lf f183) (lf f247))))) (nd f11 (.n none (.n none (nd f67 (nd f131 (lf f259) .e) (lf f195)) (nd f99 (lf f163) (lf f227))) (nd f51 (.n none (lf f147) (lf f211)) (nd f115 (lf f179) (lf f243)))) (nd f27 (nd f43 (nd f75 (nd f139 (lf f267) .e) (lf f203)) (nd f107 (lf f171) (lf f235))) (nd f59 (nd f91 (lf f155) (lf f219)) (nd f123 (lf f187) (lf f251)))))) (.n none (.n none (.n none (nd f33 (nd f65 (nd f129 (lf f257) .e) (lf f193)) (.n none (lf f161) (lf f225))) (.n none (nd f81 (lf f145) .e) (nd f113 (lf f177) (lf f241)))) (nd f25 (nd f41 (nd f73 (.n none (lf f265) .e) (lf f201)) (nd f105 (lf f169) (lf f233))) (nd f57 (nd f89 (lf f153) (lf f217)) (nd f121 (lf f185) (lf f249))))) (.n none (nd f21 (.n none (nd f69 (nd f133 (lf f261) .e) (lf f197)) (nd f101 (lf f165) (lf f229))) (.n none (nd f85 (lf f149) (lf f213)) (nd f117 (lf f181) (lf f245)))) (nd f29 (nd f45 (nd f77 (nd f141 (lf f269) .e) (lf f205)) (nd f109 (lf f173) (lf f237))) (nd f61 (nd f93 (lf f157) (lf f221)) (nd f125 (lf f189) (lf f253))))))) (.n none (.n none (.n none (nd f16 (.n none (nd f64 (nd f128 (lf f256) .e) (lf f192)) (nd f96 (lf f160) (lf f224))) (.n none (nd f80 (lf f144) (lf f208)) (nd f112 (lf f176) (lf f240)))) (nd f24 (nd f40 (nd f72 (nd f136 (lf f264) .e) (lf f200)) (nd f104 .e (lf f232))) (nd f56 (nd f88 (lf f152) (lf f216)) (nd f120 (lf f184) (lf f248))))) (nd f12 (nd f20 (nd f36 (nd f68 (nd f132 (lf f260) .e) (lf f196)) (nd f100 (lf f164) (lf f228))) (nd f52 (nd f84 (lf f148) (lf f212)) (nd f116 (lf f180) (lf f244)))) (nd f28 (.n none (nd f76 (nd f140 (lf f268) .e) (lf f204)) (nd f108 (lf f172) (lf f236))) (nd f60 (nd f92 (lf f156) (lf f220)) (nd f124 (lf f188) (lf f252)))))) (.n none (.n none (nd f18 (.n none (nd f66 (nd f130 (lf f258) .e) (lf f194)) (nd f98 (lf f162) (lf f226))) (nd f50 (nd f82 (lf f146) (lf f210)) (nd f114 (lf f178) (lf f242)))) (.n none (.n none (nd f74 (nd f138 (lf f266) .e) (lf f202)) (nd f106 (lf f170) (lf f234))) (nd f58 (nd f90 (lf f154) (lf f218)) (nd f122 (lf f186) (lf f250))))) (nd f14 (nd f22 (nd f38 (nd f70 (nd f134 (lf f262) .e) (lf f198)) (nd f102 (lf f166) (lf f230))) (nd f54 (nd f86 (lf f150) (lf f214)) (nd f118 (lf f182) (lf f246)))) (.n none (nd f46 (nd f78 (nd f142 (lf f270) .e) (lf f206)) (nd f110 (lf f174) (lf f238))) (nd f62 (nd f94 (lf f158) (lf f222)) (nd f126 (lf f190) (lf f254))))))))
noncomputable def O9:T Nat:=sX [(136,4),(244,1)]
noncomputable def Tryz.tab:bC:={und:=Pd,siz:=Pc,byt:=O8,lj:=P7,agg:=O7,cmp:= .e,held:=Pp,lr:=Pb,fns:=Pa,ext:=O9,merge:=fun _=>false}
end Go.Proofs
namespace Go.Proofs
open Go Go.Am
def OB:FuncId:=11
def oM:FuncId:=12
def GF:FuncId:=16
def nf:FuncId:=18
def GD:FuncId:=20
def Gi:FuncId:=21
def GG:FuncId:=22
def GK:FuncId:=23
def nc:FuncId:=24
def rm:FuncId:=25
def rf:FuncId:=27
def Gs:FuncId:=29
def mG:FuncId:=33
def lH:FuncId:=36
def oO:FuncId:=38
def GB:FuncId:=39
def lG:FuncId:=40
def mU:FuncId:=41
def qY:FuncId:=43
def kM:FuncId:=45
def lI:FuncId:=46
def mO:FuncId:=50
def mE:FuncId:=51
def Gt:FuncId:=52
def Hi:FuncId:=54
def kL:FuncId:=55
def OO:FuncId:=56
def Hd:FuncId:=57
def G9:FuncId:=58
def qU:FuncId:=59
def rn:FuncId:=60
def Hy:FuncId:=61
def GI:FuncId:=62
def ri:FuncId:=63
def Ho:FuncId:=65
def HD:FuncId:=68
def Hx:FuncId:=74
def qE:FuncId:=75
def qX:FuncId:=76
def Hc:FuncId:=78
def Gg:FuncId:=79
def vi:FuncId:=80
def oN:FuncId:=81
def lF:FuncId:=82
def qI:FuncId:=84
def mJ:FuncId:=88
def qB:FuncId:=89
def HE:FuncId:=90
def mS:FuncId:=91
def Hg:FuncId:=92
def mN:FuncId:=93
def GC:FuncId:=94
def mF:FuncId:=95
def Gx:FuncId:=96
def OM:FuncId:=102
def qP:FuncId:=105
def GH:FuncId:=106
def G7:FuncId:=107
def Hl:FuncId:=108
def Gw:FuncId:=109
def Hf:FuncId:=110
def rj:FuncId:=113
def HF:FuncId:=114
def GO:FuncId:=115
def GP:FuncId:=116
def Gh:FuncId:=117
def oR:FuncId:=118
def Hz:FuncId:=119
def rl:FuncId:=121
def OA:FuncId:=122
def qC:FuncId:=123
def qS:FuncId:=124
def He:FuncId:=125
def GJ:FuncId:=126
def qZ:FuncId:=127
def vm:FuncId:=128
def Hp:FuncId:=131
def GA:FuncId:=132
def qV:FuncId:=133
def qT:FuncId:=134
def Gy:FuncId:=135
def G6:FuncId:=141
def HJ:FuncId:=143
def HA:FuncId:=144
def Hb:FuncId:=145
def qQ:FuncId:=146
def OI:FuncId:=147
def Hv:FuncId:=148
def Hw:FuncId:=149
def GY:FuncId:=150
def Hq:FuncId:=151
def Hu:FuncId:=152
def Hm:FuncId:=154
def qG:FuncId:=155
def GN:FuncId:=157
def GZ:FuncId:=160
def rh:FuncId:=162
def mY:FuncId:=163
def mW:FuncId:=164
def qD:FuncId:=165
def re:FuncId:=166
def qH:FuncId:=167
def G8:FuncId:=171
def Hj:FuncId:=172
def nj:FuncId:=173
def qR:FuncId:=174
def qM:FuncId:=175
def oP:FuncId:=176
def GL:FuncId:=177
def Ht:FuncId:=178
def Hr:FuncId:=179
def vp:FuncId:=180
def Gv:FuncId:=184
def mZ:FuncId:=203
def mQ:FuncId:=204
def mR:FuncId:=205
def GR:FuncId:=206
def mP:FuncId:=207
def yC:FuncId:=208
def Hn:FuncId:=219
def mV:FuncId:=221
def ni:FuncId:=222
def mK:FuncId:=223
def Hk:FuncId:=224
def mT:FuncId:=225
def qN:FuncId:=226
def oQ:FuncId:=227
def qO:FuncId:=228
def Oz:FuncId:=230
def mL:FuncId:=240
def mM:FuncId:=241
def mX:FuncId:=242
def Gz:FuncId:=243
def GM:FuncId:=249
def mI:FuncId:=250
def mH:FuncId:=251
def mD:FuncId:=252
def qW:FuncId:=258
def Ty.string:TypeId:=9
def ve:TypeId:=24
def u9:TypeId:=33
def Ty.kN:TypeId:=35
def yA:TypeId:=42
def PU:TypeId:=45
def Gr:TypeId:=48
def HR:TypeId:=124
def HU:TypeId:=126
noncomputable abbrev oH:bC:=Tryz.tab
theorem Tryz.h1:Tryz.tab.und.dH Tryz.prog.underlying=Tryz.tab.und:=by kernel_rfl
theorem Tryz.h2:Tryz.tab.siz.dH (fun t=>(Tryz.prog.info? t).map (·.size))=Tryz.tab.siz:=by kernel_rfl
theorem Tryz.h3:Tryz.tab.byt.dH (fun t=>(Tryz.prog.info? t).map (·.bytes))=Tryz.tab.byt:=by kernel_rfl
theorem Tryz.h4:Tryz.tab.lj.dH (fun t=>((Tryz.prog.info? t).bind (·.zero)).map ofConst)=Tryz.tab.lj:=by kernel_rfl
theorem Tryz.h5:Tryz.tab.agg.dH (fun t=>(Tryz.prog.underlying t).map FM)=Tryz.tab.agg:=by kernel_rfl
theorem Tryz.h6:Tryz.tab.held.dH (fun t=>some (Tryz.prog.stoodInHeld t))=Tryz.tab.held:=by kernel_rfl
theorem Tryz.h7:Tryz.tab.lr.dH (fun t=>some (Tryz.prog.eqGuardType Tryz.prog.depth t))=Tryz.tab.lr:=by kernel_rfl
theorem Tryz.h8:Tryz.tab.fns.dH (fun f=>Tryz.prog.funcs[f]?)=Tryz.tab.fns:=by kernel_rfl
theorem Tryz.h9:Tryz.tab.fns.all (fun fn=> !(fn.name== "runtime.NumGoroutine"))=true:=by kernel_rfl
theorem Tryz.kj:bX Tryz.prog Tryz.tab:=bX.of Tryz.h1 Tryz.h2 Tryz.h3 Tryz.h4 Tryz.h5 Tryz.h6 Tryz.h7 Tryz.h8 Tryz.h9
end Go.Proofs
