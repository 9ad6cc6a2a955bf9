/- Part 8: an evaluator, proved sound, and its use at this seat; no condition. -/
import Derived.WalkKit
import Derived.Deep.RegionWith
import Derived.Test.YtmfohfbdddlilaaGreatP3
import Derived.Test.YtmfohfbdddlilaaGreatP4
import Derived.Test.YtmfohfbdddlilaaGreatP5
import Derived.Test.YtmfohfbdddlilaaGreatP7
set_option linter.unusedSimpArgs false
set_option linter.unusedVariables false
set_option linter.unusedSectionVars false
set_option linter.deprecated false
set_option maxRecDepth 100000
set_option maxHeartbeats 4000000
namespace Go.Proofs
open Go Go.Am Go.RowKit Go.Sy
section
variable [Inhabited aF]
def jU (m:ay) (e:aa):Bool:=(e.kind==1)&& !decide (e.dot∈m.dead)
def bM (m:ay):List aa:=m.kept.filter (jU m)
def aG (m:ay) (k:aC):List aa:=(bM m).filter fun e=>decide (e.key=k)
def gh:aa:=⟨⟨0,0,0⟩,⟨0,0,0⟩,0,vq,⟨[],false,false,false,false,0,0,0⟩,[]⟩
def dw (l:List aa):Option aa:=l.foldl (fun b e=>match b with|none=>some e|some y=>if jE e.aV y.aV then some y else some e) none
def cT (m:ay) (k:aC):aa×Bool:=((dw (aG m k)).getD gh,(dw (aG m k)).isSome)
def jJ (x y:aa):Bool:=gG x.key y.key
def iB (out:List aa) (w:aa):List aa:=out.take (cC jJ out w)++w::out.drop (cC jJ out w)
def ct (m:ay) (l:List aa):List aa:=l.foldl (fun out x=>if(cT m x.key).1.dot=x.dot then iB out (cT m x.key).1 else out) []
def eX (m:ay):List aa:=ct m (bM m)
def eU (m:ay):List aH:=(eX m).map aa.item
def nm (m:ay) (k:aC):List ag:=(aG m k).map (·.dot)
def zE (l:List aa):SO:= .arr aa l aa.enc wv
def HJ:aP:={Y:=ay,pre:=fT,args:=fun y=>[.agg y.enc],res:=fun y=>cI (bM y)}
def O4 (y:ay):aK:={α:=Nat,ok:=fun i=>i<=y.kept.length,μ:=fun i=>y.kept.length - i,aU:=[1],aR:=fun i=>[(3, .own 1),(4,i64 i)],bD:=fun i=>[(1,zE ((y.kept.take i).filter (jU y)))]}
def IW:aP:={Y:=ay×aC,pre:=fun y=>fT y.1,args:=fun y=>[.agg y.1.enc, .agg y.2.enc],res:=fun y=>cI (aG y.1 y.2)}
def RR (y:ay×aC):aK:={α:=Nat,ok:=fun i=>i<=(bM y.1).length,μ:=fun i=>(bM y.1).length - i,aU:=[3],aR:=fun i=>[(5, .own 2),(6,cI (bM y.1)),(7,i64 i)],bD:=fun i=>[(2,zE (((bM y.1).take i).filter fun e=>decide (e.key=y.2)))]}
def GC:aP:={Y:=ay×aC,pre:=fun y=>fT y.1,args:=fun y=>[.agg y.1.enc, .agg y.2.enc],res:=fun y=> .bj [.agg (cT y.1 y.2).1.enc, .bool (cT y.1 y.2).2]}
def NM (y:ay×aC):aK:=let l:=aG y.1 y.2;{α:=Nat,ok:=fun i=>i<=l.length,μ:=fun i=>l.length - i,aU:=[4,7],aR:=fun i=>[(6,cI l),(8,i64 i)],bD:=fun i=>[(3, .cells ((dw (l.take i)).getD gh).enc wv)]}
def FZ:aP:={Y:=ay,pre:=fT,args:=fun y=>[.agg y.enc],res:=fun y=>cI (eX y)}
def tY (y:ay):aK:=let l:=bM y;{α:=Nat,ok:=fun i=>i<=l.length,μ:=fun i=>l.length - i,aU:=[1],aR:=fun i=>[(3,cI (ct y (l.take i))),(4,cI l),(5,i64 i)],bD:=fun _=>[],eW:=[3]}
def Lr (y:ay):aK:=let l:=bM y;{α:=Nat×Nat,ok:=fun x=>∃h:x.1<l.length,x.2<=cC jJ (ct y (l.take x.1)) (cT y l[x.1].key).1,μ:=fun x=>(ct y (l.take x.1)).length - x.2,aU:=[1,6],aR:=fun x=>[(3,cI (ct y (l.take x.1))),(4,cI l),(5,i64 x.1),(8,i64 x.2)],bD:=fun _=>[],link:=some fun a b=>b.1=a.1}
def HM:aP:={Y:=ay,pre:=fT,args:=fun y=>[.agg y.enc],res:=fun y=>lA (eU y)}
def O5 (y:ay):aK:=let l:=eX y;{α:=Nat,ok:=fun i=>i<=l.length,μ:=fun i=>l.length - i,aU:=[],aR:=fun i=>[(3, .own 1),(4,cI l),(5,i64 i)],bD:=fun i=>[(1,sD ((l.take i).map aa.item))]}
theorem u9 {α:Type} {p:α->Bool} {l:List α} {x:Nat} (h:x<l.length):(l.take (x+1)).filter p=(l.take x).filter p++if p l[x]then[l[x]]else[]:=by
 rw[Az h,Dp];by_cases hp:p l[x]=true<;>simp[hp]
theorem yM {α:Type} {p:α->Bool} {l:List α} {x:Nat}:((l.take x).filter p).length<=x:=Aq (A7 _ _) (by simp;omega)
theorem yL {α:Type} {p:α->Bool} {l:List α} {x:Nat} (h:¬(x:Int)<Int.ofNat l.length):(l.take x).filter p=l.filter p:=by
 rw[As (by simp only[Aa]at h;omega)]
theorem uN {α β:Type} (f:α->β) {l:List α} {x:Nat} (h:x<l.length):(l.take (x+1)).map f=(l.take x).map f++[f l[x]]:=by
 rw[Az h,AR];rfl
theorem tZ {m:ay} (h:fT m):(bM m).length<=50000:=Aq (A7 _ _) h.kept
theorem yz {m:ay} (h:fT m) (k:aC):(aG m k).length<=50000:=Aq (A7 _ _) (tZ h)
theorem Nt (out:List aa) (w:aa):(iB out w).length=out.length+1:=by
 unfold iB;have:=oX (less:=jJ) out w;simp;omega
theorem uV (m:ay):∀(l out:List aa),(l.foldl (fun out x=>if(cT m x.key).1.dot=x.dot then iB out (cT m x.key).1 else out) out).length<=out.length+l.length
 |[],out=>by simp
 | x::l,out=>by
  have h1:=uV m l (if(cT m x.key).1.dot=x.dot then iB out (cT m x.key).1 else out);have h2:(if(cT m x.key).1.dot=x.dot then iB out (cT m x.key).1 else out).length<=out.length+1:=by
   split
   . rw[Nt];omega
   . omega
  simp only[BF,A1];omega
theorem tU {m:ay} (h:fT m):(eX m).length<=50000:=by
 have h1:=uV m (bM m) [];have h2:=tZ h;unfold eX ct;simp only[Bb,Ay]at h1;omega
theorem rh (n:Nat) (h:n<=60000):(Nat.ble (n*176) 16777216&&Nat.ble n 16777216)=true:=by
 rw[Ab,AW,AW];omega
theorem ri (n:Nat) (h:n<=60000):(Nat.ble (n*96) 16777216&&Nat.ble n 16777216)=true:=by
 rw[Ab,AW,AW];omega
theorem zD (n:Nat) (h:n<=600000):(Nat.ble (n*24) 16777216&&Nat.ble n 16777216)=true:=by
 rw[Ab,AW,AW];omega
theorem OP:CO pF HJ:=bZ (cfg:=fun y=>bU vS (cS pF 3 (O4 y))) bH (fun _=>rfl) (fun _=>x8) (n:=600) (by
 rintro⟨c,k,d⟩ ⟨(h1:c.length<=100000),h2,(h3:k.length<=50000),(h4:d.length<=100000)⟩
 (conv=>whnf)
 refine⟨⟨(0:Nat),Av _,?_⟩,?_⟩
 . repeat' (first|exact trivial|exact rfl|((conv=>whnf);first|(apply aA<;>intro)|apply And.intro))
 intro (x:Nat) hx;have hx:x<=k.length:=hx;have hlen:=A7 (jU ⟨c,k,d⟩) (k.take x);rw[Bz]at hlen
 (conv=>whnf)
 refine aA (fun hlt=>?_) fun hge=>?_
 . have hlt':x<k.length:=cY hlt;have hf:=u9 (p:=jU ⟨c,k,d⟩) hlt';have mu:k.length - (x+1)<k.length - x:=by omega
   have hz:((k.take x).filter (jU ⟨c,k,d⟩)).length+1<=60000:=by omega
   (conv=>whnf)
   refine ar.2 ⟨_,dz hlt',?_⟩
   (conv=>whnf)
   refine aj.2 ⟨fun h5=> ?ga,fun h5=> ?gb⟩
   case' ga=>
    have h5:(k[x].kind==1)=true:=h5
    (conv=>whnf)
    refine ar.2 ⟨_,dz hlt',?_⟩
    (conv=>whnf)
    refine⟨(d,k[x].dot),?_⟩
    repeat ((conv=>whnf);first|refine⟨rfl,?_⟩|refine⟨trivial,?_⟩)
    refine⟨by show d.length<=1000000;omega,?_⟩
    (conv=>whnf)
    refine aj.2 ⟨fun h6=> ?gc,fun h6=> ?gd⟩
    case gc=>
     have h6:(!decide (k[x].dot∈d))=true:=h6;have hA:jU ⟨c,k,d⟩ k[x]=true:=by simp only[jU,h5,h6,Ez]
     simp only[hA,if_true]at hf
     (conv=>whnf)
     refine ar.2 ⟨_,dz hlt',?_⟩
     (conv=>whnf)
     refine⟨k[x],rfl,?_⟩
     (conv=>whnf)
     refine ah.2 ⟨rh _ hz,?_⟩
     (conv=>whnf)
     refine ah.2 ⟨cM x (by omega),?_⟩
     (conv=>whnf)
     refine⟨(x+1:Nat),hlt',mu,?_⟩
     repeat' (first|exact trivial|exact rfl|((conv=>whnf);first|(apply aA<;>intro)|apply And.intro))
     all_goals ((conv=>whnf);rw[hf])
    case' gd=>
     have h6:(!decide (k[x].dot∈d))=false:=h6;have hA:jU ⟨c,k,d⟩ k[x]=false:=by simp only[jU,h6,BT]
   case' gb=>
    have h5:(k[x].kind==1)=false:=h5;have hA:jU ⟨c,k,d⟩ k[x]=false:=by simp only[jU,h5,Bc]
   all_goals
    simp only[hA,Ak,Aw,BW]at hf
    (conv=>whnf)
    refine ah.2 ⟨cM x (by omega),?_⟩
    (conv=>whnf)
    refine⟨(x+1:Nat),hlt',mu,?_⟩
    repeat' (first|exact trivial|exact rfl|((conv=>whnf);first|(apply aA<;>intro)|apply And.intro))
    all_goals ((conv=>whnf);rw[hf])
 . (conv=>whnf)
   refine⟨by rw[yL (kC hge)];rfl,?_⟩
   repeat' (first|exact trivial|exact rfl|((conv=>whnf);first|(apply aA<;>intro)|apply And.intro)))
noncomputable def zj (f:FuncId):Option aP:=bif Nat.beq f pF then some HJ else vS f
theorem Hd:∀g C,zj g=some C->CO g C:=bX OP x8
theorem Rr:CO pX IW:=bZ (cfg:=fun y=>bU zj (cS pX 4 (RR y))) bH (fun _=>rfl) (fun _=>Hd) (n:=600) (by
 rintro⟨m,k⟩ (hm:fT m);have hal:=tZ hm
 (conv=>whnf)
 refine⟨m,?_⟩
 repeat ((conv=>whnf);first|refine⟨rfl,?_⟩|refine⟨trivial,?_⟩)
 refine⟨hm,?_⟩
 (conv=>whnf)
 refine⟨⟨(0:Nat),Av _,?_⟩,?_⟩
 . repeat' (first|exact trivial|exact rfl|((conv=>whnf);first|(apply aA<;>intro)|apply And.intro))
 intro (x:Nat) hx;have hx:x<=(bM m).length:=hx;have hlen:=yM (l:=bM m) (x:=x) (p:=fun e:aa=>decide (e.key=k))
 (conv=>whnf)
 refine aA (fun hlt=>?_) fun hge=>?_
 . have hlt':x<(bM m).length:=cY hlt;have hf:=u9 (p:=fun e:aa=>decide (e.key=k)) hlt';have mu:(bM m).length - (x+1)<(bM m).length - x:=by omega
   have hz:(((bM m).take x).filter fun e:aa=>decide (e.key=k)).length+1<=60000:=by omega
   (conv=>whnf)
   refine ar.2 ⟨_,dz hlt',?_⟩
   (conv=>whnf)
   refine aA (fun h=>?_) fun h=>?_
   . have h:decide ((bM m)[x].key=k)=true:=by rw[HA]at h;exact h
     simp only[h,if_true]at hf
     (conv=>whnf)
     refine ar.2 ⟨_,dz hlt',?_⟩
     (conv=>whnf)
     refine⟨(bM m)[x],rfl,?_⟩
     (conv=>whnf)
     refine ah.2 ⟨rh _ hz,?_⟩
     (conv=>whnf)
     refine ah.2 ⟨cM x (by omega),?_⟩
     (conv=>whnf)
     refine⟨(x+1:Nat),hlt',mu,?_⟩
     repeat' (first|exact trivial|exact rfl|((conv=>whnf);first|(apply aA<;>intro)|apply And.intro))
     all_goals ((conv=>whnf);rw[hf])
   . have h:decide ((bM m)[x].key=k)=false:=by rw[HA]at h;exact h
     simp only[h,Ak,Aw,BW]at hf
     (conv=>whnf)
     refine ah.2 ⟨cM x (by omega),?_⟩
     (conv=>whnf)
     refine⟨(x+1:Nat),hlt',mu,?_⟩
     repeat' (first|exact trivial|exact rfl|((conv=>whnf);first|(apply aA<;>intro)|apply And.intro))
     all_goals ((conv=>whnf);rw[hf])
 . (conv=>whnf)
   refine⟨by rw[yL (kC hge)];rfl,?_⟩
   repeat' (first|exact trivial|exact rfl|((conv=>whnf);first|(apply aA<;>intro)|apply And.intro)))
noncomputable def yW (f:FuncId):Option aP:=bif Nat.beq f pX then some IW else zj f
theorem He:∀g C,yW g=some C->CO g C:=bX Rr Hd
theorem uW {l:List aa} {x:Nat} (h:x<l.length):dw (l.take (x+1))=some (match dw (l.take x)with|none=>l[x]|some y=>if jE l[x].aV y.aV then y else l[x]):=by
 unfold dw;rw[nP _ _ h];generalize (l.take x).foldl _ none=b
 cases b with
 |none=>rfl
 |some y=>simp only;split<;>rfl
theorem sC {l:List aa} {x:Nat} (h0:0<x) (h:x<=l.length):∃y,dw (l.take x)=some y:=by
 obtain⟨k,rfl⟩:∃k,x=k+1:=⟨x - 1,by omega⟩;exact⟨_,uW (by omega)⟩
theorem Nc:CO pz GC:=bZ (cfg:=fun y=>bU yW (cS pz 4 (NM y))) bH (fun _=>rfl) (fun _=>He) (n:=600) (by
 rintro⟨m,k⟩ (hm:fT m);have hkl:=yz hm k
 (conv=>whnf)
 refine⟨(m,k),?_⟩
 repeat ((conv=>whnf);first|refine⟨rfl,?_⟩|refine⟨trivial,?_⟩)
 refine⟨hm,?_⟩
 (conv=>whnf)
 refine⟨⟨(0:Nat),Av _,?_⟩,?_⟩
 . repeat' (first|exact trivial|exact rfl|((conv=>whnf);first|(apply aA<;>intro)|apply And.intro))
 intro (x:Nat) hx;have hx:x<=(aG m k).length:=hx
 (conv=>whnf)
 refine aA (fun hlt=>?_) fun hge=>?_
 . have hlt':x<(aG m k).length:=cY hlt;have hn:=uW hlt';have mu:(aG m k).length - (x+1)<(aG m k).length - x:=by omega
   (conv=>whnf)
   refine aj.2 ⟨fun h0=> ?ga,fun h0=> ?gb⟩
   case' ga=>
    have h0:x=0:=by
      have h0:((x:Int)==0)=true:=h0;simpa using h0
    have hw:(dw ((aG m k).take (x+1))).getD gh=(aG m k)[x]:=by rw[hn];subst h0;rfl
   case' gb=>
    have h0:0<x:=by
      have h0:((x:Int)==0)=false:=h0;simp at h0;omega
    obtain⟨y,hy⟩:=sC h0 hx;have hgd:(dw ((aG m k).take x)).getD gh=y:=by rw[hy];rfl
    rw[hy]at hn
    (conv=>whnf)
    refine ar.2 ⟨_,dz hlt',?_⟩
    (conv=>whnf)
    refine⟨((aG m k)[x].aV,((dw ((aG m k).take x)).getD gh).aV),?_⟩
    repeat ((conv=>whnf);first|refine⟨rfl,?_⟩|refine⟨trivial,?_⟩)
    (conv=>whnf)
    refine aj.2 ⟨fun h1=> ?gc,fun h1=> ?gd⟩
    case' gc=>
      have h1:jE (aG m k)[x].aV y.aV=false:=by
       have h1:(!jE (aG m k)[x].aV ((dw ((aG m k).take x)).getD gh).aV)=true:=h1;rw[hgd]at h1;simpa using h1
      have hw:(dw ((aG m k).take (x+1))).getD gh=(aG m k)[x]:=by rw[hn];simp[h1]
    case gd=>
      have h1:jE (aG m k)[x].aV y.aV=true:=by
       have h1:(!jE (aG m k)[x].aV ((dw ((aG m k).take x)).getD gh).aV)=false:=h1;rw[hgd]at h1;simpa using h1
      have hw:(dw ((aG m k).take (x+1))).getD gh=(dw ((aG m k).take x)).getD gh:=by rw[hn,hgd];simp[h1]
      (conv=>whnf)
      refine ah.2 ⟨cM x (by omega),?_⟩
      (conv=>whnf)
      refine⟨(x+1:Nat),hlt',mu,?_⟩
      repeat' (first|exact trivial|(with_reducible exact rfl)|((conv=>whnf);first|(apply aA<;>intro)|apply And.intro))
      all_goals first|exact rfl|(rw[hw];exact rfl)
   all_goals
    (conv=>whnf)
    refine ar.2 ⟨_,dz hlt',?_⟩
    (conv=>whnf)
    refine ah.2 ⟨cM x (by omega),?_⟩
    (conv=>whnf)
    refine⟨(x+1:Nat),hlt',mu,?_⟩
    repeat' (first|exact trivial|(with_reducible exact rfl)|((conv=>whnf);first|(apply aA<;>intro)|apply And.intro))
    all_goals first|exact rfl|(rw[hw];exact rfl)
 . have hge':(aG m k).length<=x:=fY hge;have e:(aG m k).take x=aG m k:=As hge';have h2:bV 0 (Int.ofNat (aG m k).length)=(dw (aG m k)).isSome:=by
    rw[cm,A4,Ae];constructor
    . intro h;obtain⟨y,hy⟩:=sC (l:=aG m k) (x:=(aG m k).length) (by simp only[Aa]at h;omega) (Ah _);rw[Bg]at hy;rw[hy];rfl
    . intro h
      cases hk:aG m k with
      |nil=>rw[hk]at h;cases h
      |cons a l=>simp<;>omega
   repeat' (first|exact trivial|(with_reducible exact rfl)|((conv=>whnf);first|(apply aA<;>intro)|apply And.intro))
   all_goals first|exact rfl|exact h2|(rw[e];done)|(rw[e];exact rfl))
noncomputable def vT (f:FuncId):Option aP:=bif Nat.beq f pz then some GC else yW f
theorem x9:∀g C,vT g=some C->CO g C:=bX Nc He
end
end Go.Proofs
namespace Go.Proofs
open Go Go.Am Go.RowKit Go.Sy Go.Gm
section
section
variable {K V:Type} [DecidableEq K]
theorem bg {L:List (K×V)} {k:K}:aw L k=none↔k∉L.map (·.1):=by
 unfold aw;rw[Fe,D7];constructor
 . rintro h hm;obtain⟨x,hx,rfl⟩:=Ar.1 hm;exact h x hx (by simp)
 . rintro h x hx he;exact h (Ar.2 ⟨x,hx,(BC he).symm⟩)
theorem lp {L:List (K×V)} {k:K} {v:V} (h:aw L k=some v):(k,v)∈L:=by
 unfold aw at h;obtain⟨x,hx,rfl⟩:=Ap.1 h;have h1:=List.find?_some hx;have h2:=E4 hx;have:k=x.1:=BC h1;subst this;exact h2
theorem yD {k:K} {u v:V}:∀{L:List (K×V)},(L.map (·.1)).Nodup->(k,u)∈L->(k,v)∈L->u=v
 |[],_,h,_=>by cases h
 |y::L,hn,h1,h2=>by
  rw[AP,Dq]at hn;rcases Aj.1 h1 with h1|h1<;>rcases Aj.1 h2 with h2|h2
  . rw[<-h1,BR]at h2;exact h2.2.symm
  . exact absurd (Ar.2 ⟨_,h2,by rw[<-h1]⟩) hn.1
  . exact absurd (Ar.2 ⟨_,h1,by rw[<-h2]⟩) hn.1
  . exact yD hn.2 h1 h2
theorem yd {L:List (K×V)} {k:K} {v:V} (hn:(L.map (·.1)).Nodup):aw L k=some v↔(k,v)∈L:=by
 refine⟨lp,fun h=>?_⟩
 cases e:aw L k with
 |none=>exact absurd (Ar.2 ⟨(k,v),h,rfl⟩) (bg.1 e)
 |some u=>rw[yD hn (lp e) h]
theorem mj (k:K):aw ([]:List (K×V)) k=none:=rfl
theorem rO (x:K×V) (L:List (K×V)) (k:K):aw (x::L) k=if k=x.1 then some x.2 else aw L k:=by
 unfold aw;rw[DB];by_cases h:k=x.1<;>simp[h]
theorem Lb (L M:List (K×V)) (k:K):aw (L++M) k=(aw L k).or (aw M k):=by
 unfold aw;rw[DI]
 cases List.find? (fun x:K×V=>decide (k=x.1)) L<;>simp
theorem gQ (L:List (K×V)) (k k':K) (v:V):aw (bN L k v) k'=if k'=k then some v else aw L k':=by
 have key:∀L:List (K×V),aw (L.map fun x=>if k=x.1 then(k,v)else x) k'=if k'=k then(if k∈L.map (·.1)then some v else none)else aw L k':=by
   intro L;induction L with
   |nil=>simp[mj]
   | cons x L ih=>
     rw[AP,rO,rO,ih,AP];by_cases h1:k=x.1
     . by_cases h2:k'=k
       . rw[if_pos h1];simp only[h2,if_true];rw[if_pos (by rw[h1];exact Ao)]
       . have h3:¬k'=x.1:=fun e=>h2 (e.trans h1.symm)
         rw[if_pos h1];simp only[if_neg h2,if_neg h3]
     . by_cases h2:k'=k
       . rw[if_neg h1];have h3:¬k'=x.1:=fun e=>h1 (h2.symm.trans e)
         simp only[if_pos h2,if_neg h3,Aj,h1,false_or]
       . rw[if_neg h1];simp only[if_neg h2]
 unfold bN;split
 . rename_i hm;rw[key,if_pos hm]
 . rename_i hm;rw[Lb,rO,mj];by_cases h2:k'=k
   . rw[if_pos h2,if_pos h2,h2,bg.2 hm];rfl
   . rw[if_neg h2,if_neg h2];cases aw L k'<;>rfl
theorem yc (L:List (K×V)) (k k':K):aw (cW L k) k'=if k'=k then none else aw L k':=by
 unfold cW aw;rw[List.find?_filter];by_cases h:k'=k
 . rw[if_pos h,Fe,D7];intro x hx;simp[h]
 . rw[if_neg h];congr 2
   funext x
   by_cases e:k'=x.1
   . have:¬k=x.1:=fun e2=>h (e.trans e2.symm)
     simp[e,this]
   . simp[e]
theorem Lh {L:List (K×V)} {k:K} (h:aw L k=none) (v:V):(bN L k v).length=L.length+1:=by
 unfold bN;rw[if_neg (bg.1 h)];simp
theorem GO {L:List (K×V)} {k:K}:k∈L.map (·.1)↔(aw L k).isSome=true:=by
 rw[Ea,ne_eq,bg,Decidable.not_not]
end
abbrev DL:=List (ag×Int)
structure aT where
 kept:List (ag×(Value×aa))
 alive:List (aC×(Nat×DL))
 dead:DL
 vec:List ((Int×Int)×Int)
def nS (A:List (aC×(Nat×DL))) (nb:Nat) (k:aC) (d:ag):List (aC×(Nat×DL)):=
 match aw A k with
 |none=>bN A k (nb,[(d,1)])
 |some x=>bN A k (x.1,bN x.2 d 1)
def mz (A:List (aC×(Nat×DL))) (k:aC) (d:ag):List (aC×(Nat×DL)):=
 match aw A k with
 |none=>A
 |some x=>if cW x.2 d=[]then cW A k else bN A k (x.1,cW x.2 d)
def jn (G:aT) (d:ag):aT:={G with dead:=bN G.dead d 1,alive:=match aw G.kept d with
 |some x=>if x.2.kind=1 then mz G.alive x.2.key d else G.alive
 |none=>G.alive}
def fV (G:aT) (e:aa) (v:Value):aT:={G with vec:=bN G.vec (e.dot.dev,e.dot.inc) e.dot.seq,kept:=bN G.kept e.dot (v,e)}
def gK (G:aT) (e:aa) (nb:Nat):aT:=if e.kind=1/\aw G.dead e.dot=none then{G with alive:=nS G.alive nb e.key e.dot}else G
def jG (G:aT) (l:List ag):aT:=l.foldl jn G
def fL (A:List (aC×(Nat×DL))) (k:aC) (d:ag):Prop:=∃x,aw A k=some x/\(aw x.2 d).isSome=true
def qY (A:List (aC×(Nat×DL))):Prop:=∀k x,aw A k=some x->x.2≠[]
theorem Mj {A:List (aC×(Nat×DL))} {nb:Nat} {k k':aC} {d d':ag}:fL (nS A nb k d) k' d'↔fL A k' d'\/(k'=k/\d'=d):=by
 unfold fL nS
 cases e:aw A k with
 |none=>
  simp only[gQ];by_cases h:k'=k
  . subst h;by_cases h2:d'=d
    . subst h2;simp[e,mj,rO]
    . simp[e,mj,rO,h2]
  . simp[h]
 |some x=>
  simp only[gQ];by_cases h:k'=k
  . subst h;by_cases h2:d'=d
    . subst h2;simp[gQ]
    . simp[e,gQ,h2]
  . simp[h]
theorem QN {K V:Type} [DecidableEq K] (L:List (K×V)) (k:K) (v:V):bN L k v≠[]:=by
 intro e;have:=gQ L k k v;rw[e,mj]at this;simp at this
theorem MA {A:List (aC×(Nat×DL))} {nb:Nat} {k:aC} {d:ag} (h:qY A):qY (nS A nb k d):=by
 intro k' x hx;unfold nS at hx;split at hx
 . rw[gQ]at hx;split at hx
   . cases hx;simp
   . exact h k' x hx
 . rw[gQ]at hx;split at hx
   . cases hx;exact QN _ _ _
   . exact h k' x hx
theorem Mi {A:List (aC×(Nat×DL))} {k k':aC} {d d':ag}:fL (mz A k d) k' d'↔fL A k' d'/\ ¬(k'=k/\d'=d):=by
 unfold fL mz
 cases e:aw A k with
 |none=>
  simp only;by_cases h:k'=k
  . subst h;simp[e]
  . simp[h]
 |some x=>
  have hdel:=yc x.2 d d';simp only;split
  . rename_i hnil;rw[yc];by_cases h:k'=k
    . subst h;simp only[if_true,e];rw[hnil]at hdel;by_cases h2:d'=d
      . simp[h2]
      . rw[if_neg h2]at hdel;simp[h2,<-hdel,mj]
    . simp[h]
  . rw[gQ];by_cases h:k'=k
    . subst h;simp only[if_true,e];by_cases h2:d'=d
      . subst h2;simp[hdel]
      . rw[if_neg h2]at hdel;simp[h2,hdel]
    . simp[h]
theorem Mz {A:List (aC×(Nat×DL))} {k:aC} {d:ag} (h:qY A):qY (mz A k d):=by
 intro k' x hx;unfold mz at hx;split at hx
 . exact h k' x hx
 . split at hx
   . rw[yc]at hx;split at hx
     . cases hx
     . exact h k' x hx
   . rename_i hne;rw[gQ]at hx;split at hx
     . cases hx;exact hne
     . exact h k' x hx
structure kV (kept:List (ag×(Value×aa))) (dead:ag->Prop) (A:List (aC×(Nat×DL))):Prop where
 al:∀k d,fL A k d↔∃x,aw kept d=some x/\x.2.kind=1/\x.2.key=k/\ ¬dead d
 full:qY A
theorem kV.kill {G:aT} {d:ag} (h:kV G.kept (fun x=>(aw G.dead x).isSome=true) G.alive):kV (jn G d).kept (fun x=>(aw (jn G d).dead x).isSome=true) (jn G d).alive:=by
 have hdead:∀x,(aw (jn G d).dead x).isSome=true↔(aw G.dead x).isSome=true\/x=d:=fun x=>by
   show(aw (bN G.dead d 1) x).isSome=true↔_
   rw[gQ];by_cases e:x=d<;>simp[e]
 refine⟨fun k d'=>?_,?_⟩
 . show fL (match aw G.kept d with|some x=>if x.2.kind=1 then mz G.alive x.2.key d else G.alive|none=>G.alive) k d'↔∃x,aw G.kept d'=some x/\_
   simp only[hdead]
   cases e:aw G.kept d with
   | none=>
     simp only[h.al];constructor
     . rintro⟨x,h1,h2,h3,h4⟩;exact⟨x,h1,h2,h3,fun hh=>hh.elim h4 fun e2=>by subst e2;rw[e]at h1;cases h1⟩
     . rintro⟨x,h1,h2,h3,h4⟩;exact⟨x,h1,h2,h3,fun hh=>h4 (.inl hh)⟩
   | some y=>
     simp only;split
     . rename_i hk;rw[Mi,h.al];constructor
       . rintro⟨⟨x,h1,h2,h3,h4⟩,h5⟩;exact⟨x,h1,h2,h3,fun hh=>hh.elim h4 fun e2=>by subst e2;rw[e]at h1;cases h1;exact h5 ⟨h3.symm,rfl⟩⟩
       . rintro⟨x,h1,h2,h3,h4⟩;exact⟨⟨x,h1,h2,h3,fun hh=>h4 (.inl hh)⟩,fun hh=>h4 (.inr hh.2)⟩
     . rename_i hk;rw[h.al];constructor
       . rintro⟨x,h1,h2,h3,h4⟩;exact⟨x,h1,h2,h3,fun hh=>hh.elim h4 fun e2=>by subst e2;rw[e]at h1;cases h1;exact hk h2⟩
       . rintro⟨x,h1,h2,h3,h4⟩;exact⟨x,h1,h2,h3,fun hh=>h4 (.inl hh)⟩
 . show qY (match aw G.kept d with|some x=>if x.2.kind=1 then mz G.alive x.2.key d else G.alive|none=>G.alive)
   split
   . split
     . exact Mz h.full
     . exact h.full
   . exact h.full
theorem kV.ru {l:List ag} {G:aT} (h:kV G.kept (fun x=>(aw G.dead x).isSome=true) G.alive):kV (jG G l).kept (fun x=>(aw (jG G l).dead x).isSome=true) (jG G l).alive:=by
 induction l generalizing G with
 |nil=>exact h
 |cons d l ih=>exact ih h.kill
theorem LA (l:List ag) (G:aT):(jG G l).kept=G.kept/\(jG G l).vec=G.vec:=by
 induction l generalizing G with
 |nil=>exact⟨rfl,rfl⟩
 |cons d l ih=>exact ih (jn G d)
theorem Mg (l:List ag) (G:aT) (x:ag):(aw (jG G l).dead x).isSome=true↔(aw G.dead x).isSome=true\/x∈l:=by
 induction l generalizing G with
 |nil=>simp[jG]
 | cons d l ih=>
  have h:=ih (jn G d);have hd:(aw (jn G d).dead x).isSome=true↔(aw G.dead x).isSome=true\/x=d:=by
   show(aw (bN G.dead d 1) x).isSome=true↔_
   rw[gQ];by_cases e:x=d<;>simp[e]
  show(aw (jG (jn G d) l).dead x).isSome=true↔_
  rw[h,hd,Aj,or_assoc]
def mZ (L:List ((Int×Int)×Int)) (a i:Int):Int:=(aw L (a,i)).getD 0
structure bT (G:aT) (m:ay):Prop where
 vec:∀a i,mZ G.vec a i=getM m.ctx a i
 kept:∀e:aa,e∈m.kept↔∃v,aw G.kept e.dot=some (v,e)
 keys:∀d x,aw G.kept d=some x->x.2.dot=d
 len:G.kept.length=m.kept.length
 sorted:m.kept.Pairwise fun x y=>bu x.dot y.dot=true
 ctx:∀e∈m.kept,dX m.ctx e.dot=true
 dead:∀d,(aw G.dead d).isSome=true↔d∈m.dead
 wG:kV G.kept (fun x=>(aw G.dead x).isSome=true) G.alive
theorem JX:bT ⟨[],[],[],[]⟩ ly:=by
 refine⟨fun _ _=>rfl,fun e=>?_,fun d x h=>(by cases h),rfl,List.Pairwise.nil,fun e h=>(by cases h),fun d=>?_,⟨fun k d=>?_,fun k x h=>(by cases h)⟩⟩
 . simp[ly,mj]
 . simp[ly,mj]
 . simp[fL,mj]
theorem ed {x:ag} {a i:Int}:fj x a i=true↔x.dev=a/\x.inc=i:=by
 unfold fj;simp
theorem IK {a i n a' i':Int} (h:¬(a'=a/\i'=i)):∀(l:List ag) (s:List ag×Bool),(l.foldl (ff a i n) s).1.find? (fun x=>fj x a' i')=(s.1.find? fun x=>fj x a' i').or (l.find? fun x=>fj x a' i')
 |[],s=>by simp
 |x::l,s=>by
  have hn:fj ⟨a,i,n⟩ a' i'=false:=AN.2 fun e=>h (by have:=ed.1 e;exact⟨this.1.symm,this.2.symm⟩)
  rw[BF,IK h l,DB];have hx:fj x a i=true->fj x a' i'=false:=fun e=>AN.2 fun e2=>h (by have h1:=ed.1 e;have h2:=ed.1 e2;exact⟨h2.1.symm.trans h1.1,h2.2.symm.trans h1.2⟩)
  unfold ff
  cases e1:(!s.2&& !kK x a i)<;>cases e2:fj x a i<;>simp only[A8,AJ,DI,DB,Es,hn,ET]
  . cases e3:fj x a' i'<;>simp
  . rw[hx e2]
  . cases e3:fj x a' i'<;>simp
  . rw[hx e2]
theorem IJ {a i n:Int}:∀(l:List ag) (s:List ag×Bool),(s.1.find? fun x=>fj x a i)=(if s.2=true then some ⟨a,i,n⟩else none)->((l.foldl (ff a i n) s).1.find? fun x=>fj x a i)=if(l.foldl (ff a i n) s).2=true then some ⟨a,i,n⟩else none
 |[],s,h=>h
 |x::l,s,h=>by
  rw[BF];refine IJ l _ ?_;have hn:fj ⟨a,i,n⟩ a i=true:=ed.2 ⟨rfl,rfl⟩;unfold ff
  cases e0:s.2<;>cases e1:kK x a i<;>cases e2:fj x a i<;>simp only[e0,Ak,Aw,if_true]at h<;>simp only[Df,BH,DA,BT,Bn,Bc,A8,AJ,e0,if_true,Aw,Ak,DI,h,DB,hn,e2,Es,EU,Option.some_or,ET]
theorem G5 (l:List ag) (a i n:Int):fx l a i n=bif (l.foldl (ff a i n) ([],false)).2 then(l.foldl (ff a i n) ([],false)).1 else(l.foldl (ff a i n) ([],false)).1++[⟨a,i,n⟩]:=rfl
theorem ye (l:List ag) (a i n a' i':Int):getM (fx l a i n) a' i'=if a'=a/\i'=i then n else getM l a' i':=by
 have hn:fj ⟨a,i,n⟩ a i=true:=ed.2 ⟨rfl,rfl⟩;split
 . rename_i h;obtain⟨rfl,rfl⟩:=h;have h1:=IJ (a:=a') (i:=i') (n:=n) l ([],false) (by simp);unfold getM;rw[G5]
   cases e:(l.foldl (ff a' i' n) ([],false)).2
   . rw[e]at h1;simp only[AJ,DI,h1,Ak,Aw,EU,DB,hn]
   . rw[e]at h1;simp only[A8,h1,if_true]
 . rename_i h;have h1:=IK (n:=n) h l ([],false);have hn2:fj ⟨a,i,n⟩ a' i'=false:=AN.2 fun e=>h (by have:=ed.1 e;exact⟨this.1.symm,this.2.symm⟩)
   unfold getM;rw[G5];simp only[Es,EU]at h1
   cases e:(l.foldl (ff a i n) ([],false)).2
   . simp only[AJ,DI,h1,DB,hn2,Es,ET]
   . simp only[A8,h1]
section
variable {α:Type} {less:α->α->Bool}
theorem Oz (l:List α) (e:α):l.take (cC less l e)=l.takeWhile fun x=>less x e:=by
 unfold cC;conv=>lhs;rw[<-EJ (p:=fun x=>less x e) (l:=l)]
 rw[List.take_left'];simp
theorem ND (l:List α) (e:α):l.drop (cC less l e)=l.dropWhile fun x=>less x e:=by
 unfold cC;conv=>lhs;arg 2;rw[<-EJ (p:=fun x=>less x e) (l:=l)]
 rw[List.drop_left'];simp
theorem xk (htr:∀x y z,less x y=true->less y z=true->less x z=true) {e:α}:∀{l:List α},l.Pairwise (fun x y=>less x y=true)->(∀x∈l,less x e=true\/less e x=true)->(l.take (cC less l e)++e::l.drop (cC less l e)).Pairwise fun x y=>less x y=true:=by
 intro l hl ht;rw[Oz,ND];induction l with
 |nil=>simp
 |cons x l ih=>
  rw[DC]at hl;rw[BA,Dy];by_cases h:less x e=true
  . simp only[h,if_true,Bh,DC];refine⟨fun y hy=>?_,ih hl.2 fun y hy=>ht y (An _ hy)⟩;rcases Ba.1 hy with hy|hy
    . exact hl.1 y (List.takeWhile_subset _ hy)
    . rcases Aj.1 hy with rfl|hy
      . exact h
      . exact hl.1 y (List.dropWhile_subset _ hy)
  . simp only[h,Aw,BE,DC,Ak];have h1:less e x=true:=(ht x Ao).resolve_left h;refine⟨fun y hy=>?_,hl⟩;rcases Aj.1 hy with rfl|hy
    . exact h1
    . exact htr _ _ _ h1 (hl.1 y hy)
theorem yB (l:List α) (e x:α):x∈l.take (cC less l e)++e::l.drop (cC less l e)↔x∈l\/x=e:=by
 conv=>rhs;lhs;rw[<-Dh (cC less l e) l]
 simp only[Ba,Aj];constructor
 . rintro(h|h|h)
   . exact .inl (.inl h)
   . exact .inr h
   . exact .inl (.inr h)
 . rintro((h|h)|h)
   . exact .inl h
   . exact .inr (.inr h)
   . exact .inr (.inl h)
theorem OI [DecidableEq α] (l:List α) (e x:α):x∈fu less l e↔x∈l\/x=e:=by
 unfold fu;split
 . rename_i h;refine⟨.inl,fun hh=>hh.elim id fun hx=>?_⟩;subst hx;exact BP h
 . exact yB l e x
theorem M7 [DecidableEq α] (l a:List α) (x:α):x∈l.foldl (fu less) a↔x∈a\/x∈l:=by
 induction l generalizing a with
 |nil=>simp
 |cons y l ih=>rw[BF,ih,OI,Aj,or_assoc]
theorem mT [DecidableEq α] (l:List α) (x:α):x∈cw less l↔x∈l:=by
 unfold cw;rw[M7];simp
end
variable [Inhabited aF]
theorem bT.none {G:aT} {m:ay} (h:bT G m) {e:aa} (hh:dX m.ctx e.dot=false):aw G.kept e.dot=none:=by
 cases he:aw G.kept e.dot with
 |none=>rfl
 |some x=>
  have h1:=h.keys _ _ he;have h2:=(h.kept x.2).2 ⟨x.1,by rw[h1,he]⟩;have h3:=h.ctx _ h2;rw[h1,hh]at h3;cases h3
def oZ (G:aT) (e:aa) (v:Value) (nb:Nat):aT:=jG (gK (fV G e v) e nb) e.over
theorem FA (G:aT) (e:aa) (nb:Nat):(gK G e nb).kept=G.kept/\(gK G e nb).vec=G.vec/\(gK G e nb).dead=G.dead:=by
 unfold gK;split<;>exact⟨rfl,rfl,rfl⟩
theorem kV.take {G:aT} {e:aa} {v:Value} {nb:Nat} (h:kV G.kept (fun x=>(aw G.dead x).isSome=true) G.alive) (hn:aw G.kept e.dot=none):
   kV (gK (fV G e v) e nb).kept (fun x=>(aw (gK (fV G e v) e nb).dead x).isSome=true) (gK (fV G e v) e nb).alive:=by
 obtain⟨k1,k2,k3⟩:=FA (fV G e v) e nb;rw[k1,k3];have hk:∀d,aw (fV G e v).kept d=if d=e.dot then some (v,e)else aw G.kept d:=fun d=>gQ _ _ _ _
 have hno:∀k,¬fL G.alive k e.dot:=fun k hh=>by
   obtain⟨x,hx,_⟩:=(h.al k e.dot).1 hh;rw[hn]at hx;cases hx
 show kV _ (fun x=>(aw G.dead x).isSome=true) _
 unfold gK;split
 . rename_i hc;have hd:¬(aw G.dead e.dot).isSome=true:=by
     have:=hc.2;rw[show(fV G e v).dead=G.dead from rfl]at this;rw[this];simp
   refine⟨fun k d=>?_,MA h.full⟩;show fL (nS G.alive nb e.key e.dot) k d↔_
   rw[Mj,hk];by_cases hd2:d=e.dot
   . subst hd2;simp only[if_true];constructor
     . rintro(hh|⟨hh,_⟩)
       . exact absurd hh (hno k)
       . exact⟨_,rfl,hc.1,hh.symm,hd⟩
     . rintro⟨x,hx,_,h3,_⟩
       cases hx;exact .inr ⟨h3.symm,trivial⟩
   . simp only[if_neg hd2,hd2,and_false,DT];exact h.al k d
 . rename_i hc;refine⟨fun k d=>?_,h.full⟩;show fL G.alive k d↔_
   rw[hk];by_cases hd2:d=e.dot
   . subst hd2;simp only[if_true];refine⟨fun hh=>absurd hh (hno k),?_⟩;rintro⟨x,hx,h2,_,h4⟩
     cases hx;refine absurd ⟨h2,?_⟩ hc;show aw G.dead e.dot=none
     cases e5:aw G.dead e.dot with
     |none=>rfl
     |some z=>rw[e5]at h4;simp at h4
   . simp only[if_neg hd2];exact h.al k d
theorem bT.apply {G:aT} {m:ay} {e:aa} (h:bT G m) (v:Value) (nb:Nat) (hr:fC e=true) (hh:dX m.ctx e.dot=false) (hs:getM m.ctx e.dot.dev e.dot.inc+1=e.dot.seq) (hk:¬2048<=m.kept.length):
   bT (oZ G e v nb) (dN m e).1/\(dN m e).2=(true,0):=by
 have hA:dN m e=(⟨fx m.ctx e.dot.dev e.dot.inc e.dot.seq,eQ m.kept e,cw bu (m.dead++e.over)⟩,true,0):=by
   unfold dN;rw[if_neg (by simp[hr]),if_neg (by simp[hh]),if_neg (by simp[hs]),if_neg hk]
 rw[hA];refine⟨?_,rfl⟩;have hn:=h.none hh;obtain⟨k1,k2,k3⟩:=FA (fV G e v) e nb;obtain⟨q1,q2⟩:=LA e.over (gK (fV G e v) e nb);have hkept:(oZ G e v nb).kept=bN G.kept e.dot (v,e):=q1.trans k1;have hvec:(oZ G e v nb).vec=bN G.vec (e.dot.dev,e.dot.inc) e.dot.seq:=q2.trans k2;have hput:∀x,x∈eQ m.kept e↔x∈m.kept\/x=e:=fun x=>yB m.kept e x
 have hdot:∀x∈m.kept,x.dot≠e.dot:=fun x hx he=>by
   have:=h.ctx x hx;rw[he,hh]at this;cases this
 refine⟨fun a i=>?_,fun x=>?_,fun d x hx=>?_,?_,?_,fun x hx=>?_,fun d=>?_,?_⟩
 . show mZ (oZ G e v nb).vec a i=getM (fx m.ctx e.dot.dev e.dot.inc e.dot.seq) a i
   rw[hvec,ye];unfold mZ;rw[gQ];by_cases hc:a=e.dot.dev/\i=e.dot.inc
   . rw[if_pos hc,if_pos (by rw[hc.1,hc.2])];rfl
   . rw[if_neg hc,if_neg (by intro he;rw[BR]at he;exact hc he)];exact h.vec a i
 . show x∈eQ m.kept e↔_
   rw[hput,hkept];simp only[gQ];constructor
   . rintro(hx|rfl)
     . rw[if_neg (hdot x hx)];exact(h.kept x).1 hx
     . exact⟨v,by simp⟩
   . rintro⟨u,hu⟩;split at hu
     . cases hu;exact .inr rfl
     . exact .inl ((h.kept x).2 ⟨u,hu⟩)
 . rw[hkept,gQ]at hx;split at hx
   . rename_i he;cases hx;exact he.symm
   . exact h.keys d x hx
 . show(oZ G e v nb).kept.length=(eQ m.kept e).length
   rw[hkept,Lh hn,GY,h.len]
 . show(eQ m.kept e).Pairwise _
   refine xk (less:=nj) (fun x y z=>rD) h.sorted fun x hx=>?_
   rcases tP x.dot e.dot with h1|h1|h1
   . exact .inl h1
   . exact absurd h1 (hdot x hx)
   . exact .inr h1
 . have hx:x∈eQ m.kept e:=hx;show dX (fx m.ctx e.dot.dev e.dot.inc e.dot.seq) x.dot=true
   unfold dX;rw[ye];rcases(hput x).1 hx with hx|rfl
   . have h1:=h.ctx x hx;unfold dX at h1;rw[Ab]at h1⊢;refine⟨h1.1,?_⟩;have h2:=h1.2;rw[fg,Ae]at h2⊢;split
     . rename_i hc;rw[hc.1,hc.2]at h2;omega
     . exact h2
   . rw[uv hr,if_pos ⟨rfl,rfl⟩,fg];simp
 . show(aw (jG (gK (fV G e v) e nb) e.over).dead d).isSome=true↔d∈cw bu (m.dead++e.over)
   rw[Mg,mT,Ba,k3];show(aw G.dead d).isSome=true\/_↔_
   rw[h.dead]
 . exact(h.wG.take hn).ru
end
theorem yF {Fz:Nat->Option AO} {n:Nat} (l:List Int):aI Fz (.agg (l.map i64)) (eH n (.agg (l.map fun z=>Value.int .i64 z).toArray)):=by
 unfold eH;refine .agg (by simp) fun i c v hc hv=>?_
 simp only[Au]at hc hv
 cases h:l[i]? with
 |none=>rw[h]at hc;cases hc
 |some z=>
  rw[h]at hc;simp[h]at hv
  cases hc;rw[<-hv];exact .int _ _
theorem sT {C:Inhabited aF->aP} {f:FuncId} {fn:Func} {body:Code} (hc:∀I:Inhabited aF, @Go.Sy.cf I Tryz.prog Tryz.tab f (C I)) (hfn:Tryz.tab.fns.get f=some fn) (hb:fn.body=some body) {args:List Value} {w:World} {b:Bool}
  (hy:∀I:Inhabited aF,∃y,(C I).pre y/\PL (bS Tryz.tab w).get ((C I).args y) (args.map (eH w.heap.size))/\(C I).res y= .bool b):Calls Tryz.prog f args.toArray w fun e w'=>e= .returned (.bool b)/\Below w.heap.size w w':=by
 letI:Inhabited aF:=⟨⟨True,#[]⟩⟩
 obtain⟨y,h1,h2,h3⟩:=hy inferInstance;refine Calls.mono (nH bH.ok (hc inferInstance) hfn hb h1 h2 (cV.oC rfl _)) ?_;rintro e w' ⟨v,rfl,hv,hbel,_⟩;rw[h3]at hv
 cases hv;exact⟨rfl,hbel⟩
section
variable [Inhabited aF]
def Qu (p:World->Prop):Prop:=∀w,cV w->p w
theorem zl {w:World} {p:Nat->Prop} {g:Bool} {a:Addr} {v:Value} (h:Rd w p g (.wp a) v):v= .pointer (some a):=by cases h;rfl
theorem QO {w:World} {p:Nat->Prop} {g:Bool} {n:Int} {v:Value} (h:Rd w p g (i64 n) v):v= .int .i64 n:=by cases h;rfl
end
def yx [Inhabited aF]:aP:={Y:=ag,pre:=fun _=>True,args:=fun d=>[.agg [i64 d.dev,i64 d.inc],i64 d.seq],res:=fun d=> .bool (eL d)}
theorem Od [Inhabited aF]:CO RI yx:=bZ (C:=yx) (cfg:=fun y=>bU vT (dM y)) bH (fun _=>rfl) (fun _=>x9) (n:=400) (by
 intro (d:ag) _
 (conv=>whnf)
 refine⟨d,?_⟩
 repeat ((conv=>whnf);first|refine⟨rfl,?_⟩|refine⟨trivial,?_⟩)
 repeat' (first|exact trivial|exact rfl|((conv=>whnf);first|(apply aA<;>intro)|apply And.intro)))
theorem Sr (a i n:Int) (w:World):Calls Tryz.prog 147 #[.agg #[.int .i64 a, .int .i64 i], .int .i64 n] w fun e w'=>e= .returned (.bool (eL ⟨a,i,n⟩))/\Below w.heap.size w w':=
 sT (C:=fun I=> @yx I) (fun I=> @Od I) (hfn:=rfl) (hb:=rfl) (args:=[.agg #[.int .i64 a, .int .i64 i], .int .i64 n]) (fun I=>⟨⟨a,i,n⟩,trivial,⟨rfl,fun j c v hc hv=>by
  match j with
  |0=>cases hc;cases hv;exact yF [a,i]
  |1=>cases hc;cases hv;exact .int _ _
  |_+2=>cases hc⟩,rfl⟩)
theorem SC {w:World} {bv:Nat} {L:List ((Int×Int)×Int)} (hm:au w bv ep ch L) (a i:Int):∀w':World,w'.heap[bv]? =w.heap[bv]? ->(Instr.lookup 147 (.map (some bv)) (.agg #[.int .i64 a, .int .i64 i]) false).run Tryz.prog w'= .ok (.int .i64 ((aw L (a,i)).getD 0)) w':=fun w' h=>by
 have:=(hm.same h).lookup zr Tryz.underlying147 (sY w') (a,i) false;simp only[Ak,Aw]at this;rw[show ep (a,i)= .agg #[.int .i64 a, .int .i64 i]from rfl]at this;rw[this]
 cases aw L (a,i)<;>rfl
structure eE (S:Nat->Prop) (w w':World):Prop where
 os:w'.os=w.os
 tape:w'.tape=w.tape
 output:w'.output=w.output
 size:w.heap.size<=w'.heap.size
 block:∀k,k<w.heap.size->¬S k->w'.heap[k]? =w.heap[k]?
theorem kA {S:Nat->Prop} {w w':World} (h:Below w.heap.size w w'):eE S w w':=⟨h.os,h.tape,h.output,h.size,fun k hk _=>h.block k hk⟩
theorem eE.trans {S:Nat->Prop} {a b c:World} (h:eE S a b) (k:eE S b c):eE S a c:=
 ⟨k.os.trans h.os,k.tape.trans h.tape,k.output.trans h.output,Aq h.size k.size,fun i hi hS=>(k.block i (AU hi h.size) hS).trans (h.block i hi hS)⟩
theorem eE.mono {S T:Nat->Prop} {w w':World} (h:eE S w w') (hST:∀k,k<w.heap.size->S k->T k):eE T w w':=⟨h.os,h.tape,h.output,h.size,fun k hk hT=>h.block k hk fun hS=>hT (hST k hk hS)⟩
theorem eE.aM {S:Nat->Prop} (w:World) {b:Nat} (o:Obj) (hb:S b):eE S w.drew (World.aM w.drew b o):=⟨rfl,rfl,rfl,by simp[World.aM],fun k _ hS=>by
 show(w.drew.heap.setIfInBounds b o)[k]? =_
 have hne:¬b=k:=by rintro rfl;exact hS hb
 rw[Bx,if_neg hne]⟩
theorem eE.drew {S:Nat->Prop} {a w:World} (h:eE S a w):eE S a w.drew:=⟨h.os,h.tape,h.output,h.size,h.block⟩
theorem Sn (b:Nat) (w:World):(binOp BinOp.eql 147 (.map (some b)) (.map none)).run Tryz.prog w= .ok (.bool false) w:=by kernel_rfl
theorem Sq {w:World} {bs bv:Nat} {L:List ((Int×Int)×Int)} (hs:w.cell? ⟨bs,0,none⟩=some (.map (some bv))) (hm:au w bv ep ch L) (a i n:Int) (hne:bs≠bv) (hd:eL ⟨a,i,n⟩=true) (hlt:(aw L (a,i)).getD 0<n):
  Calls Tryz.prog 111 #[.pointer (some ⟨bs,0,none⟩), .agg #[.int .i64 a, .int .i64 i], .int .i64 n] w fun e w'=>e= .returned (.bool true)/\eE (· =bv) w w'/\au w' bv ep ch (bN L (a,i) n):=by
 have hlk:=SC hm a i;have hc:=fun w=>Sr a i n w
 rw[hd]at hc;have hbv:bv<w.heap.size:=by
  obtain⟨es,clk,h,_⟩:=hm.at_;exact(Ac.1 h).1
 have hbs:bs<w.heap.size:=by
  unfold World.cell? at hs
  cases h:w.heap[bs]? with
  |none=>simp[h]at hs
  |some o=>exact(Ac.1 h).1
 have hle:decide (n<=(aw L (a,i)).getD 0)=false:=Bu (by omega);have hmn:=fun w=>Sn bv w
 go_enter Tryz.func111,Tryz.ntmps111
 go_wp2_with fail
 have hq:Below w.heap.size w (w.alloc (.cells #[.int .i64 a, .int .i64 i] 33)).drew:=((Below.refl w.heap.size w).alloc (Ah _) _).drew;have hsz:(w.alloc (.cells #[.int .i64 a, .int .i64 i] 33)).drew.heap.size=w.heap.size+1:=by simp
 have hn0:(w.alloc (.cells #[.int .i64 a, .int .i64 i] 33)).drew.cell? ⟨w.heap.size,0,none⟩=some (.int .i64 a):=by simp
 have hn1:(w.alloc (.cells #[.int .i64 a, .int .i64 i] 33)).drew.cell? ⟨w.heap.size,1,none⟩=some (.int .i64 i):=by simp
 go_region_with (go_at_call 147;refine(hc _).mono ?_;rintro e w1 ⟨rfl,hb⟩;have hs1:w1.cell? ⟨bs,0,none⟩=some (.map (some bv)):=(hb.cell (by rw[hsz];show bs<_;omega)).trans ((hq.cell hbs).trans hs);have hl1:=hlk w1 ((hb.block bv (by rw[hsz];omega)).trans (hq.block bv hbv));have hb0:=(hb.cell (p:=⟨w.heap.size,0,none⟩) (by rw[hsz];show w.heap.size<_;omega)).trans hn0;have hb1:=(hb.cell (p:=⟨w.heap.size,1,none⟩) (by rw[hsz];show w.heap.size<_;omega)).trans hn1)
 all_goals (have hmw:au w1.drew bv ep ch L:=hm.same ((hb.block bv (by rw[hsz];omega)).trans (hq.block bv hbv)))
 all_goals (obtain⟨es,clk,hu,hmu⟩:=hmw.update zr Tryz.underlying147 (a,i) n)
 all_goals (rw[show ep (a,i)= .agg #[.int .i64 a, .int .i64 i]from rfl,show ch n= .int .i64 n from rfl]at hu)
 all_goals (go_wp2_with fail)
 all_goals (go_region_with fail)
 all_goals (go_wp2)
 all_goals (go_ret)
 all_goals (exact⟨rfl,((kA hq).trans (kA hb).drew).trans (eE.aM _ _ rfl),hmu⟩)
end Go.Proofs
namespace Go.Proofs
open Go Go.Am Go.RowKit Go.Sy
def te:Nat->Code->Code
 |0,c=>c
 |n+1, .seq _ b=>te n b
 |_,c=>c
def y9:aP:={Y:=Unit,pre:=fun _=>True,args:=fun _=>[],res:=fun _=> .bool true}
theorem CS {P:Program} {f:FuncId} {fn:Func} {l:List Item} {R:Ending->World->Prop} {a:Act} {w:World} {v:Value} (hr:(results fn a.tmps).run P w= .ok v w) (hd:a.defers=[]) (hR:R (.returned v) w):yC P f fn l R .ret a w:=⟨hd,v,hr,hR⟩
theorem eS.mono {P:Program} {f:FuncId} {l:List Item} {a:Act} {w:World} {R R':Ending->World->Prop} (h:eS P f l a w R) (hr:∀e w',R e w'->R' e w'):eS P f l a w R':=fun cs=>by
 obtain⟨e,w',fr,h1,h2⟩:=h cs;exact⟨e,w',fr,hr _ _ h1,h2⟩
theorem QL [Inhabited aF] (hdr:¬(default:aF).dr) {f:FuncId} (ha:∀w,Calls Tryz.prog f #[] w fun e w'=>e= .returned (.bool true)/\Below w.heap.size w w'):CO f y9:=kv bH.ok (by
 rintro y - w args hold ⟨h1,h2⟩;match args,h1 with
 |[],_=>
 refine(ha w).mono ?_;rintro e w' ⟨rfl,hb⟩;exact⟨_,rfl, .inr (.bool true),hb,fun h=>(hdr h).elim⟩)
end Go.Proofs
