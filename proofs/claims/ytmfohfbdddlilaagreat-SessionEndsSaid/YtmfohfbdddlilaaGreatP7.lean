/- Part 7: an evaluator, proved sound, and its use at this seat; no condition. -/
import Derived.Test.YtmfohfbdddlilaaGreatP5
import Derived.Test.YtmfohfbdddlilaaGreatP6
set_option linter.unusedSimpArgs false
set_option linter.unusedVariables false
set_option linter.unusedSectionVars false
set_option linter.deprecated false
set_option maxRecDepth 100000
set_option maxHeartbeats 4000000
namespace Go.Proofs
open Go Go.Am Go.RowKit Go.Sy
section
variable [Inhabited aF]
def lC (x:aH):Bool:=decide (x=dJ)
def fC (e:aa):Bool:=eL e.dot&&kI e.aV&&(e.aV.dev==e.dot.dev)&&gT e.dot e.over&&(bif e.kind==2 then lC e.item&&bV 0 (Int.ofNat e.over.length)else bif e.kind==1 then qL e.item else false)
def jW (e:aa):Prop:=e.key.name.length<=1000000/\e.ae.value.length<=1000000
noncomputable def qV (f:FuncId):Option aP:=bif Nat.beq f tw then some vh else bif Nat.beq f Jz then some vh else bif Nat.beq f pJ then some (fb (fun _=>True) fun e=>gT e.dot e.over)else bif Nat.beq f pD then some (fb (fun _=>True) iw)else bif Nat.beq f pn then some xz else vQ f
theorem rY:∀g C,qV g=some C->CO g C:=bX N7 (bX N8 (bX Pt (bX GS (bX CY x6))))
theorem Hu (x y:aH):x=y↔(x.key.name=y.key.name/\x.key.domain=y.key.domain/\x.key.path=y.key.path)/\x.ae.value=y.ae.value/\x.ae.bI=y.ae.bI/\x.ae.cK=y.ae.cK/\x.ae.bJ=y.ae.bJ/\x.ae.persistent=y.ae.persistent/\x.ae.cA=y.ae.cA/\x.ae.bE=y.ae.bE/\x.ae.access=y.ae.access:=by
 constructor
 . rintro rfl;simp
 . rintro⟨⟨h1,h2,h3⟩,h4⟩
   cases x;cases y;rename_i k c k' c'
   cases k;cases k';cases c;cases c';simp_all
theorem GU:CO Jy (fb jW fC):=bZ (C:=fb jW fC) (cfg:=fun y=>bU qV (dM y)) bH (fun _=>rfl) (fun _=>rY) (n:=800) (by
 rintro⟨d,st,kd,ky,ck,l⟩ ⟨(hn:ky.name.length<=1000000),(hv:ck.value.length<=1000000)⟩
 (conv=>whnf)
 refine⟨d,?_⟩
 repeat' (first|exact trivial|(with_reducible exact rfl)|((conv=>whnf);first|(apply aA<;>intro)|apply And.intro)|((conv=>whnf);refine⟨st,?_⟩;(conv=>whnf);refine⟨rfl,?_⟩)|((conv=>whnf);refine⟨(⟨d,st,kd,ky,ck,l⟩:aa),?_⟩;(conv=>whnf);refine⟨rfl,?_⟩)|((conv=>whnf);refine⟨(⟨ky,ck⟩:aH),?_⟩;(conv=>whnf);refine⟨rfl,?_⟩))
 all_goals first|exact hn|exact hv|skip
 all_goals (simp only[fb,fC,lC,aa.item])
 all_goals (simp_all[Hu,dJ,vq])
 all_goals trace_state)
def Ik (d:ag) (l:List ag):aK:={α:=Nat,ok:=fun i=>i<=l.length/\ ∀j (h:j<l.length),j<i->iJ d l j h=true,μ:=fun i=>l.length - i,aU:=[1],aR:=fun i=>[(3,i64 i)],bD:=fun _=>[]}
theorem Nb:CO pE (fb jW fC):=bZ (C:=fb jW fC) (cfg:=fun(y:aa)=>bU qV (cS pE 4 (Ik y.dot y.over))) bH (fun _=>rfl) (fun _=>rY) (n:=800) (by
 rintro⟨d,st,kd,ky,ck,l⟩ ⟨(hkn:ky.name.length<=1000000),(hv:ck.value.length<=1000000)⟩
 (conv=>whnf)
 refine⟨d,?_⟩
 repeat ((conv=>whnf);first|refine⟨rfl,?_⟩|refine⟨trivial,?_⟩)
 (conv=>whnf)
 refine aA (fun h1=>?_) fun h1=>?_
 . (conv=>whnf)
   refine⟨?_,?_⟩
   . simp only[fb,fC,lC,aa.item];simp_all
   . repeat' (first|exact trivial|exact rfl|((conv=>whnf);first|(apply aA<;>intro)|apply And.intro))
 (conv=>whnf)
 refine⟨st,?_⟩
 repeat ((conv=>whnf);first|refine⟨rfl,?_⟩|refine⟨trivial,?_⟩)
 (conv=>whnf)
 refine aA (fun h2=>?_) fun h2=>?_
 . (conv=>whnf)
   refine⟨?_,?_⟩
   . simp only[fb,fC,lC,aa.item];simp_all
   . repeat' (first|exact trivial|exact rfl|((conv=>whnf);first|(apply aA<;>intro)|apply And.intro))
 (conv=>whnf)
 refine aA (fun h3=>?_) fun h3=>?_
 . (conv=>whnf)
   refine⟨?_,?_⟩
   . simp only[fb,fC,lC,aa.item];simp_all
   . repeat' (first|exact trivial|exact rfl|((conv=>whnf);first|(apply aA<;>intro)|apply And.intro))
 (conv=>whnf)
 refine aA (fun h4=>?_) fun h4=>?_
 . (conv=>whnf)
   refine⟨?_,?_⟩
   . have h4:64<l.length:=by
       have h4:bV 64 (Int.ofNat l.length)=true:=h4;rw[cm,Ae,Aa]at h4;omega
     have:gT d l=false:=by unfold gT;rw[Bu (by omega)];rfl
     simp only[fb,fC,lC,aa.item,this,BT,Bc]
   . repeat' (first|exact trivial|exact rfl|((conv=>whnf);first|(apply aA<;>intro)|apply And.intro))
 have h:l.length<=64:=by
   have h4:bV 64 (Int.ofNat l.length)=false:=h4;rw[cm,Ai,Aa]at h4;omega
 have noR:gT d l=false->false=fC ⟨d,st,kd,ky,ck,l⟩:=fun hh=>by simp only[fC,hh,BT,Bc]
 have hd:eL d=true:=by simpa using h1
 have hs:kI st=true:=by
   have h2:(!kI st)=false:=h2;simpa using h2
 have he:(st.dev==d.dev)=true:=by
   have h3:(!(st.dev==d.dev))=false:=h3;simpa using h3
 have hR:gT d l=true->fC ⟨d,st,kd,ky,ck,l⟩=(bif kd==2 then lC ⟨ky,ck⟩&&bV 0 (Int.ofNat l.length)else bif kd==1 then qL ⟨ky,ck⟩else false):=fun hh=>by simp only[fC,hd,hs,he,hh,Bn,aa.item]
 clear h1 h2 h3 h4
 (conv=>whnf)
 refine⟨⟨(0:Nat),⟨Av _,fun _ _ h=>absurd h (A9 _)⟩,?_⟩,?_⟩
 . repeat' (first|exact trivial|exact rfl|((conv=>whnf);first|(apply aA<;>intro)|apply And.intro))
 intro (x:Nat) hx;obtain⟨hx,hn'⟩:=hx;have hx:x<=l.length:=hx
 (conv=>whnf)
 refine aA (fun hlt=>?_) fun hge=>?_
 . have hlt':x<l.length:=cY hlt;have no:=Gc (d:=d) hlt';have yes:iJ d l x hlt'=true->(Ik d l).ok (x+1:Nat):=fun hy=>⟨hlt',fun j hj hjx=>by
     rcases D3 j x with h1|h1
     . exact hn' j hj h1
     . have e:j=x:=by omega
       subst e;exact hy⟩
   have mu:l.length - (x+1)<l.length - x:=by omega
   (conv=>whnf)
   refine ar.2 ⟨_,dz hlt',?_⟩
   (conv=>whnf)
   refine⟨l[x],?_⟩
   repeat ((conv=>whnf);first|refine⟨rfl,?_⟩|refine⟨trivial,?_⟩)
   (conv=>whnf)
   refine aA (fun h1=>?_) fun h1=>?_
   . have h1:eL l[x]=false:=by
       have h1:(!eL l[x])=true:=h1;simpa using h1
     (conv=>whnf)
     refine⟨noR (no (by simp only[iJ,h1,Bc])),?_⟩
     repeat' (first|exact trivial|exact rfl|((conv=>whnf);first|(apply aA<;>intro)|apply And.intro))
   have h1:eL l[x]=true:=by
     have h1:(!eL l[x])=false:=h1;simpa using h1
   (conv=>whnf)
   refine aj.2 ⟨fun h2=> ?ga,fun h2=> ?gb⟩
   case' ga=>
     have hx0:0<x:=by
       have h2:bV 0 (x:Int)=true:=h2;rw[cm,Ae]at h2;omega
     have hx1:x - 1<l.length:=by omega
     have hget:l[((x:Int) - 1).toNat]? =some l[x - 1]:=by
       rw[show((x:Int) - 1).toNat=x - 1 by omega,Ag hx1]
     (conv=>whnf)
     refine ah.2 ⟨by rw[gJ];omega,?_⟩
     (conv=>whnf)
     refine ah.2 ⟨by rw[mB,Ae];omega,?_⟩
     (conv=>whnf)
     refine ar.2 ⟨_,hget,?_⟩
     (conv=>whnf)
     refine⟨(l[x - 1],l[x]),?_⟩
     repeat ((conv=>whnf);first|refine⟨rfl,?_⟩|refine⟨trivial,?_⟩)
     (conv=>whnf)
     refine aj.2 ⟨fun h3=> ?gc,fun h3=> ?gd⟩
     case gc=>
       have h3:bu l[x - 1] l[x]=false:=by
         have h3:(!bu l[x - 1] l[x])=true:=h3;simpa using h3
       (conv=>whnf)
       refine⟨noR (no (by simp only[iJ,h1,h3,Bu (show ¬x=0 by omega),Ey,BT,Bc])),?_⟩
       repeat' (first|exact trivial|exact rfl|((conv=>whnf);first|(apply aA<;>intro)|apply And.intro))
     case' gd=>
       have h3:bu l[x - 1] l[x]=true:=by
         have h3:(!bu l[x - 1] l[x])=false:=h3;simpa using h3
       have hA:iJ d l x hlt'= !(l[x].dev==d.dev&&l[x].inc==d.inc&&bG d.seq l[x].seq):=by simp only[iJ,h1,h3,EI,DA,Bn]
   case' gb=>
     have hx0:x=0:=by
       have h2:bV 0 (x:Int)=false:=h2;rw[cm,Ai]at h2;omega
     have hA:iJ d l x hlt'= !(l[x].dev==d.dev&&l[x].inc==d.inc&&bG d.seq l[x].seq):=by simp only[iJ,h1,BD hx0,D5,DA,Bn]
   all_goals
     (conv=>whnf)
     refine aA (fun h4=>?_) fun h4=>?_
     . have h4:(l[x].dev==d.dev&&l[x].inc==d.inc)=true:=by simpa using h4
       (conv=>whnf)
       refine aA (fun h5=>?_) fun h5=>?_
       . have h5:bG d.seq l[x].seq=true:=h5;rw[h4,h5]at hA
         (conv=>whnf)
         refine⟨noR (no hA),?_⟩
         repeat' (first|exact trivial|exact rfl|((conv=>whnf);first|(apply aA<;>intro)|apply And.intro))
       . have h5:bG d.seq l[x].seq=false:=h5;rw[h4,h5]at hA
         (conv=>whnf)
         refine ah.2 ⟨cM x (by omega),?_⟩
         (conv=>whnf)
         refine⟨(x+1:Nat),yes hA,mu,?_⟩
         repeat' (first|exact trivial|exact rfl|((conv=>whnf);first|(apply aA<;>intro)|apply And.intro))
     . have h4:(l[x].dev==d.dev&&l[x].inc==d.inc)=false:=by
         cases e:(l[x].dev==d.dev&&l[x].inc==d.inc)with
         |false=>rfl
         |true=>
          have e':(l[x].dev==d.dev&&(l[x].inc==d.inc&&true))=false:=h4;rw[DA,e]at e';cases e'
       rw[h4]at hA
       (conv=>whnf)
       refine ah.2 ⟨cM x (by omega),?_⟩
       (conv=>whnf)
       refine⟨(x+1:Nat),yes hA,mu,?_⟩
       repeat' (first|exact trivial|exact rfl|((conv=>whnf);first|(apply aA<;>intro)|apply And.intro))
 . have hge':l.length<=x:=fY hge;have hov:gT d l=true:=by
     unfold gT;rw[BD h,BD fun i hi=>hn' i hi (AU hi hge')];rfl
   have hR:=hR hov
   repeat' (first|exact trivial|(with_reducible exact rfl)|((conv=>whnf);first|(apply aA<;>intro)|apply And.intro)|((conv=>whnf);refine⟨(⟨ky,ck⟩:aH),?_⟩;(conv=>whnf);refine⟨rfl,?_⟩))
   all_goals first|exact hkn|exact hv|skip
   all_goals (show _=fC ⟨d,st,kd,ky,ck,l⟩)
   all_goals (rw[hR];simp only[lC];clear hR noR hn')
   all_goals (simp_all[Hu,dJ,vq])
   all_goals trace_state)
end
section
variable [Inhabited aF]
def fj (x:ag) (a i:Int):Bool:=x.dev==a&&(x.inc==i&&true)
def getM (l:List ag) (a i:Int):Int:=match l.find? (fun x=>fj x a i)with|some x=>x.seq|none=>0
def dX (l:List ag) (d:ag):Bool:=eL d&&bG d.seq (getM l d.dev d.inc)
def kK (x:ag) (a i:Int):Bool:=bif !(x.dev==a)then bV x.dev a else bV x.inc i
def ff (a i n:Int) (s:List ag×Bool) (x:ag):List ag×Bool:=
 let s1:=bif !s.2&& !kK x a i then(s.1++[⟨a,i,n⟩],true)else s
 bif fj x a i then s1 else(s1.1++[x],s1.2)
def fx (l:List ag) (a i n:Int):List ag:=let s:=l.foldl (ff a i n) ([],false);bif s.2 then s.1 else s.1++[⟨a,i,n⟩]
def oz (l:List ag):Prop:=l.length<=100000
def IT:aP:={Y:=List ag×Int×Int,pre:=fun y=>oz y.1,args:=fun y=>[cz y.1, .agg [i64 y.2.1,i64 y.2.2]],res:=fun y=>i64 (getM y.1 y.2.1 y.2.2)}
def RP (y:List ag×Int×Int):aK:={α:=Nat,ok:=fun x=>x<=y.1.length/\ ∀j (h:j<y.1.length),j<x->fj y.1[j] y.2.1 y.2.2=false,μ:=fun x=>y.1.length - x,aU:=[3],aR:=fun x=>[(0,cz y.1),(5,i64 x)],bD:=fun _=>[]}
def IV:aP:={Y:=List ag×ag,pre:=fun y=>oz y.1,args:=fun y=>[cz y.1, .agg y.2.enc],res:=fun y=> .bool (dX y.1 y.2)}
def HI:aP:={Y:=ag×Int×Int,pre:=fun _=>True,args:=fun y=>[.agg [i64 y.1.dev,i64 y.1.inc], .agg [i64 y.2.1,i64 y.2.2]],res:=fun y=> .bool (kK y.1 y.2.1 y.2.2)}
def IZ:aP:={Y:=List ag×Int×Int×Int,pre:=fun y=>oz y.1,args:=fun y=>[cz y.1, .agg [i64 y.2.1,i64 y.2.2.1],i64 y.2.2.2],res:=fun y=>cz (fx y.1 y.2.1 y.2.2.1 y.2.2.2)}
def bW (y:List ag×Int×Int×Int) (x:Nat):List ag×Bool:=(y.1.take x).foldl (ff y.2.1 y.2.2.1 y.2.2.2) ([],false)
def RT (y:List ag×Int×Int×Int):aK:={α:=Nat,ok:=fun x=>x<=y.1.length,μ:=fun x=>y.1.length - x,aU:=[4],aR:=fun x=>[(0,cz y.1),(2,i64 y.2.2.2),(7, .own 1),(8, .bool (bW y x).2),(9,i64 x)],bD:=fun x=>[(1, .arr ag (bW y x).1 ag.enc Jx)]}
theorem Mt {α:Type} {p:α->Bool} {l:List α} (h:∀j (h:j<l.length),p l[j]=false):l.find? p=none:=by
 rw[D7];intro x hx;obtain⟨j,hj,rfl⟩:=BB hx;rw[h j hj];simp
theorem O2 {α:Type} {p:α->Bool} {l:List α} {x:Nat} (hx:x<l.length) (h:∀j (h:j<l.length),j<x->p l[j]=false) (hp:p l[x]=true):l.find? p=some l[x]:=by
 rw[List.find?_eq_some_iff_getElem];exact⟨hp,x,hx,rfl,fun j hj=>by rw[h j (by omega) hj];rfl⟩
theorem OO:CO JC HI:=bZ (cfg:=fun y=>bU qV (dM y)) bH (fun _=>rfl) (fun _=>rY) (n:=400) (by
 rintro⟨⟨a,b,c⟩,d,e⟩ -
 repeat' (first|exact trivial|exact rfl|((conv=>whnf);first|(apply aA<;>intro)|apply And.intro))
 all_goals (simp_all[kK,Bool.cond_eq_ite]))
theorem Ro:CO pV IT:=bZ (cfg:=fun y=>bU qV (cS pV 2 (RP y))) bH (fun _=>rfl) (fun _=>rY) (n:=400) (by
 rintro⟨l,a,i⟩ (hl:l.length<=100000)
 (conv=>whnf)
 refine⟨⟨(0:Nat),⟨Av _,fun _ _ h=>absurd h (A9 _)⟩,?_⟩,?_⟩
 . repeat' (first|exact trivial|exact rfl|((conv=>whnf);first|(apply aA<;>intro)|apply And.intro))
 intro (x:Nat) hx;obtain⟨hx,hn⟩:=hx;have hx:x<=l.length:=hx;have hn:∀j (h:j<l.length),j<x->fj l[j] a i=false:=hn
 (conv=>whnf)
 refine aA (fun hlt=>?_) fun hge=>?_
 . have hlt':x<l.length:=cY hlt
   (conv=>whnf)
   refine ar.2 ⟨_,dz hlt',?_⟩
   (conv=>whnf)
   refine aA (fun h=>?_) fun h=>?_
   . have h:fj l[x] a i=true:=h
     (conv=>whnf)
     refine ar.2 ⟨_,dz hlt',?_⟩
     (conv=>whnf)
     refine⟨?_,?_⟩
     . show l[x].seq=getM l a i
       unfold getM;rw[O2 hlt' hn h]
     . repeat' (first|exact trivial|exact rfl|((conv=>whnf);first|(apply aA<;>intro)|apply And.intro))
   . have h:fj l[x] a i=false:=h
     (conv=>whnf)
     refine ah.2 ⟨cM x (by omega),?_⟩
     (conv=>whnf)
     refine⟨(x+1:Nat),⟨hlt',fun j hj hjx=>?_⟩,by show l.length - (x+1)<l.length - x;omega,?_⟩
     . rcases D3 j x with h1|h1
       . exact hn j hj h1
       . have e:j=x:=by omega
         subst e;exact h
     . repeat' (first|exact trivial|exact rfl|((conv=>whnf);first|(apply aA<;>intro)|apply And.intro))
 . have hge':l.length<=x:=fY hge
   (conv=>whnf)
   refine⟨?_,?_⟩
   . show 0=getM l a i
     unfold getM;rw[Mt fun j hj=>hn j hj (by omega)]
   . repeat' (first|exact trivial|exact rfl|((conv=>whnf);first|(apply aA<;>intro)|apply And.intro)))
noncomputable def vR (f:FuncId):Option aP:=bif Nat.beq f Jy then some (fb jW fC)else bif Nat.beq f pE then some (fb jW fC)else bif Nat.beq f JC then some HI else bif Nat.beq f pV then some IT else qV f
theorem x7:∀g C,vR g=some C->CO g C:=bX GU (bX Nb (bX OO (bX Ro rY)))
theorem Rq:CO JS IV:=bZ (cfg:=fun y=>bU vR (dM y)) bH (fun _=>rfl) (fun _=>x7) (n:=400) (by
 rintro⟨l,d⟩ (hl:l.length<=100000)
 (conv=>whnf)
 refine⟨d,?_⟩
 repeat ((conv=>whnf);first|refine⟨rfl,?_⟩|refine⟨trivial,?_⟩)
 (conv=>whnf)
 refine aA (fun h=>?_) fun h=>?_
 . have h:eL d=true:=h
   (conv=>whnf)
   refine⟨(l,d.dev,d.inc),?_⟩
   repeat ((conv=>whnf);first|refine⟨rfl,?_⟩|refine⟨trivial,?_⟩)
   refine⟨hl,?_⟩
   (conv=>whnf)
   refine⟨?_,?_⟩
   . show bG d.seq (getM l d.dev d.inc)=dX l d
     unfold dX;rw[h];rfl
   . repeat' (first|exact trivial|exact rfl|((conv=>whnf);first|(apply aA<;>intro)|apply And.intro))
 . have h:eL d=false:=h
   (conv=>whnf)
   refine⟨?_,?_⟩
   . show false=dX l d
     unfold dX;rw[h];rfl
   . repeat' (first|exact trivial|exact rfl|((conv=>whnf);first|(apply aA<;>intro)|apply And.intro)))
theorem Ln (a i n:Int) (s:List ag×Bool) (x:ag):(ff a i n s x).1.length<=s.1.length+2:=by
 unfold ff
 cases(!s.2&& !kK x a i)<;>cases fj x a i<;>simp
theorem yn (y:List ag×Int×Int×Int):∀{x:Nat},x<=y.1.length->(bW y x).1.length<=2*x
 |0,_=>by simp[bW]
 |x+1,h=>by
  have h1:=yn y (x:=x) (by omega);have h2:bW y (x+1)=ff y.2.1 y.2.2.1 y.2.2.2 (bW y x) y.1[x]:=nP _ _ h;have h3:=Ln y.2.1 y.2.2.1 y.2.2.2 (bW y x) y.1[x];rw[h2];omega
theorem Ry:CO pW IZ:=bZ (cfg:=fun y=>bU vR (cS pW 4 (RT y))) bH (fun _=>rfl) (fun _=>x7) (n:=600) (by
 rintro⟨l,a,i,n⟩ (hl:l.length<=100000)
 (conv=>whnf)
 refine⟨⟨(0:Nat),Av _,?_⟩,?_⟩
 . repeat' (first|exact trivial|exact rfl|((conv=>whnf);first|(apply aA<;>intro)|apply And.intro))
 intro (x:Nat) hx;have hx:x<=l.length:=hx
 (conv=>whnf)
 refine aA (fun hlt=>?_) fun hge=>?_
 . have hlt':x<l.length:=cY hlt;have hf:bW (l,a,i,n) (x+1)=ff a i n (bW (l,a,i,n) x) l[x]:=nP _ _ hlt';have hlen:(bW (l,a,i,n) x).1.length<=2*x:=yn _ hx;have ap:∀M:List ag,M.length<=300000->(Nat.ble ((M.length+1)*24) 16777216&&Nat.ble (M.length+1) 16777216)=true:=fun M h=>by
     rw[Ab,AW,AW];omega
   have mu:l.length - (x+1)<l.length - x:=by omega
   have hL1:(bW (l,a,i,n) x).1.length<=300000:=by omega
   have hL2:((bW (l,a,i,n) x).1++[(⟨a,i,n⟩:ag)]).length<=300000:=by simp;omega
   (conv=>whnf)
   refine aj.2 ⟨fun h1=> ?ga,fun h1=> ?gb⟩
   case' ga=>
     have h1:(bW (l,a,i,n) x).2=false:=by simpa using h1
     (conv=>whnf)
     refine ar.2 ⟨_,dz hlt',?_⟩
     (conv=>whnf)
     refine⟨(l[x],a,i),?_⟩
     repeat ((conv=>whnf);first|refine⟨rfl,?_⟩|refine⟨trivial,?_⟩)
     (conv=>whnf)
     refine aj.2 ⟨fun h2=> ?gc,fun h2=> ?gd⟩
     case' gc=>
       have h2:kK l[x] a i=false:=by
        have h2:(!kK l[x] a i)=true:=h2;simpa using h2
       have hst:ff a i n (bW (l,a,i,n) x) l[x]=(bif fj l[x] a i then((bW (l,a,i,n) x).1++[⟨a,i,n⟩],true)else((bW (l,a,i,n) x).1++[⟨a,i,n⟩]++[l[x]],true)):=by
        simp only[ff,h1,h2,Df,Ez,A8]
       (conv=>whnf)
       refine⟨(⟨a,i,n⟩:ag),rfl,?_⟩
       (conv=>whnf)
       refine ah.2 ⟨ap _ hL1,?_⟩
     case' gd=>
       have h2:kK l[x] a i=true:=by
        have h2:(!kK l[x] a i)=false:=h2;simpa using h2
       have hst:ff a i n (bW (l,a,i,n) x) l[x]=(bif fj l[x] a i then((bW (l,a,i,n) x).1,(bW (l,a,i,n) x).2)else((bW (l,a,i,n) x).1++[l[x]],(bW (l,a,i,n) x).2)):=by
        simp only[ff,h1,h2,BH,BT,AJ]
        cases fj l[x] a i<;>simp[<-h1]
   case' gb=>
     have h1:(bW (l,a,i,n) x).2=true:=by simpa using h1
     have hst:ff a i n (bW (l,a,i,n) x) l[x]=(bif fj l[x] a i then((bW (l,a,i,n) x).1,(bW (l,a,i,n) x).2)else((bW (l,a,i,n) x).1++[l[x]],(bW (l,a,i,n) x).2)):=by
       simp only[ff,h1,BH,Bc,AJ]
       cases fj l[x] a i<;>simp[<-h1]
   all_goals
     rw[hst]at hf
     (conv=>whnf)
     refine ar.2 ⟨_,dz hlt',?_⟩
     (conv=>whnf)
     refine aA (fun h3=>?_) fun h3=>?_
     . have h3:fj l[x] a i=false:=by
        have h3:(!fj l[x] a i)=true:=h3;simpa using h3
       rw[h3,AJ]at hf
       (conv=>whnf)
       refine ar.2 ⟨_,dz hlt',?_⟩
       (conv=>whnf)
       refine⟨l[x],rfl,?_⟩
       (conv=>whnf)
       refine ah.2 ⟨by first|exact ap _ hL1|exact ap _ hL2,?_⟩
       (conv=>whnf)
       refine ah.2 ⟨cM x (by omega),?_⟩
       (conv=>whnf)
       refine⟨(x+1:Nat),hlt',mu,?_⟩
       repeat' (first|exact trivial|exact rfl|((conv=>whnf);first|(apply aA<;>intro)|apply And.intro))
       all_goals ((conv=>whnf);rw[hf])
     . have h3:fj l[x] a i=true:=by
        have h3:(!fj l[x] a i)=false:=h3;simpa using h3
       rw[h3,A8]at hf
       (conv=>whnf)
       refine ah.2 ⟨cM x (by omega),?_⟩
       (conv=>whnf)
       refine⟨(x+1:Nat),hlt',mu,?_⟩
       repeat' (first|exact trivial|exact rfl|((conv=>whnf);first|(apply aA<;>intro)|apply And.intro))
       all_goals ((conv=>whnf);rw[hf])
 . have hge':l.length<=x:=fY hge;have hall:fx l a i n=(bif (bW (l,a,i,n) x).2 then(bW (l,a,i,n) x).1 else(bW (l,a,i,n) x).1++[⟨a,i,n⟩]):=by
     unfold fx bW;rw[As hge']
   have hlen:(bW (l,a,i,n) x).1.length<=2*x:=yn _ hx
   (conv=>whnf)
   refine aA (fun h1=>?_) fun h1=>?_
   . have h1:(bW (l,a,i,n) x).2=false:=by simpa using h1
     rw[h1,AJ]at hall
     (conv=>whnf)
     refine⟨(⟨a,i,n⟩:ag),rfl,?_⟩
     (conv=>whnf)
     refine ah.2 ⟨by show(Nat.ble (((bW (l,a,i,n) x).1.length+1)*24) 16777216&&Nat.ble ((bW (l,a,i,n) x).1.length+1) 16777216)=true;rw[Ab,AW,AW];omega,?_⟩
     (conv=>whnf)
     refine⟨by rw[hall],?_⟩
     repeat' (first|exact trivial|exact rfl|((conv=>whnf);first|(apply aA<;>intro)|apply And.intro))
   . have h1:(bW (l,a,i,n) x).2=true:=by simpa using h1
     rw[h1,A8]at hall
     (conv=>whnf)
     refine⟨by rw[hall],?_⟩
     repeat' (first|exact trivial|exact rfl|((conv=>whnf);first|(apply aA<;>intro)|apply And.intro)))
noncomputable def zh (f:FuncId):Option aP:=bif Nat.beq f JS then some IV else bif Nat.beq f pW then some IZ else vR f
theorem Hb:∀g C,zh g=some C->CO g C:=bX Rq (bX Ry x7)
end
section
variable [Inhabited aF]
def nj (x y:aa):Bool:=bu x.dot y.dot
def ji (l:List aa) (e:aa):Nat:=cC nj l e
def eQ (l:List aa) (e:aa):List aa:=l.take (ji l e)++e::l.drop (ji l e)
def IY:aP:={Y:=List aa×aa,pre:=fun y=>y.1.length<=50000,args:=fun y=>[cI y.1, .agg y.2.enc],res:=fun y=>cI (eQ y.1 y.2)}
def RS (y:List aa×aa):aK:={α:=Nat,ok:=fun k=>k<=ji y.1 y.2,μ:=fun k=>y.1.length - k,aU:=[3],aR:=fun k=>[(0,cI y.1),(5,i64 k)],bD:=fun _=>[]}
def dN (m:ay) (e:aa):ay×Bool×Int:=
 if fC e=false then(m,false,1)else if dX m.ctx e.dot=true then(m,false,0)else if getM m.ctx e.dot.dev e.dot.inc+1≠e.dot.seq then(m,false,6)else if 2048<=m.kept.length then(m,false,9)
 else(⟨fx m.ctx e.dot.dev e.dot.inc e.dot.seq,eQ m.kept e,cw bu (m.dead++e.over)⟩,true,0)
structure fT (m:ay):Prop where
 ctx:m.ctx.length<=100000
 seq:∀x∈m.ctx,0<=x.seq/\x.seq<=4294967296
 kept:m.kept.length<=50000
 dead:m.dead.length<=100000
theorem CC {l:List ag} (h:∀x∈l,0<=x.seq/\x.seq<=4294967296) (a i:Int):0<=getM l a i/\getM l a i<=4294967296:=by
 unfold getM
 cases e:l.find? (fun x=>fj x a i)with
 |none=>simp
 |some x=>exact h x (E4 e)
def HK:aP:={Y:=ay×aa,pre:=fun y=>fT y.1/\jW y.2/\y.2.over.length<=100000,args:=fun y=>[.agg y.1.enc, .agg y.2.enc],res:=fun y=> .bj [.agg (dN y.1 y.2).1.enc, .bool (dN y.1 y.2).2.1,i64 (dN y.1 y.2).2.2]}
theorem Rx:CO pY IY:=bZ (cfg:=fun y=>bU zh (cS pY 2 (RS y))) bH (fun _=>rfl) (fun _=>Hb) (n:=600) (by
 rintro⟨l,e⟩ (hl:l.length<=50000)
 (conv=>whnf)
 refine⟨⟨(0:Nat),Av _,?_⟩,?_⟩
 . repeat' (first|exact trivial|exact rfl|((conv=>whnf);first|(apply aA<;>intro)|apply And.intro))
 intro (k:Nat) hk;have hk:k<=cC nj l e:=hk;have hkp:=oX (less:=nj) l e;have hkl:k<=l.length:=by omega
 have ap:∀n:Nat,n<=60000->(Nat.ble (n*176) 16777216&&Nat.ble n 16777216)=true:=fun n h=>by
   rw[Ab,AW,AW];omega
 (conv=>whnf)
 refine aj.2 ⟨fun hlt=> ?ga,fun hge=> ?gb⟩
 case' ga=>
   have hlt':k<l.length:=cY hlt
   (conv=>whnf)
   refine ar.2 ⟨_,dz hlt',?_⟩
   (conv=>whnf)
   refine⟨(l[k].dot,e.dot),?_⟩
   repeat ((conv=>whnf);first|refine⟨rfl,?_⟩|refine⟨trivial,?_⟩)
   (conv=>whnf)
   refine aj.2 ⟨fun h=> ?gc,fun h=> ?gd⟩
   case gc=>
     have h:nj l[k] e=true:=h
     (conv=>whnf)
     refine ah.2 ⟨cM k (by omega),?_⟩
     (conv=>whnf)
     refine⟨(k+1:Nat),xK hk hlt' h,by show l.length - (k+1)<l.length - k;omega,?_⟩
     repeat' (first|exact trivial|exact rfl|((conv=>whnf);first|(apply aA<;>intro)|apply And.intro))
   case' gd=>
     have h:nj l[k] e=false:=h;have hkk:k=cC nj l e:=xL hk hlt' h
 case' gb=>
   have hge':l.length<=k:=fY hge;have hkk:k=cC nj l e:=by omega
 all_goals
   repeat (first|((conv=>whnf);refine⟨fun _=>rfl,?_⟩)|((conv=>whnf);refine⟨fun _=>⟨rfl,rfl⟩,?_⟩)|((conv=>whnf);refine⟨e,rfl,?_⟩)|((conv=>whnf);refine⟨(_:List aa),rfl,?_⟩)|((conv=>whnf);refine ah.2 ⟨by(show Nat.ble k l.length=true;rw[AW];exact hkl),?_⟩)|((conv=>whnf);refine ah.2 ⟨ap _ (by simp;omega),?_⟩))
   (conv=>whnf)
   refine⟨?_,?_⟩
   . show SV.aJ aa _ aa.enc=SV.aJ aa (eQ l e) aa.enc
     unfold eQ ji;rw[<-hkk];simp
   . repeat' (first|exact trivial|exact rfl|((conv=>whnf);first|(apply aA<;>intro)|apply And.intro)))
noncomputable def zi (f:FuncId):Option aP:=bif Nat.beq f pY then some IY else zh f
theorem Hc:∀g C,zi g=some C->CO g C:=bX Rx Hb
theorem OQ:CO JF HK:=bZ (cfg:=fun y=>bU zi (dM y)) bH (fun _=>rfl) (fun _=>Hc) (n:=600) (by
 rintro⟨⟨c,k,d⟩,e⟩ ⟨⟨(hc:c.length<=100000),(hs:∀x∈c,0<=x.seq/\x.seq<=4294967296),(hk:k.length<=50000),(hd:d.length<=100000)⟩,(hse:jW e),(ho:e.over.length<=100000)⟩;have hr:=CC hs e.dot.dev e.dot.inc
 (conv=>whnf)
 refine⟨e,?_⟩
 repeat ((conv=>whnf);first|refine⟨rfl,?_⟩|refine⟨trivial,?_⟩)
 refine⟨hse,?_⟩
 (conv=>whnf)
 refine aA (fun h1=>?_) fun h1=>?_
 . have h1:fC e=false:=by simpa using h1
   have hA:dN ⟨c,k,d⟩ e=(⟨c,k,d⟩,false,1):=by unfold dN;rw[if_pos h1]
   repeat' (first|exact trivial|(with_reducible exact rfl)|((conv=>whnf);first|(apply aA<;>intro)|apply And.intro))
   all_goals ((conv=>whnf);rw[hA])
 have h1:fC e=true:=by simpa using h1
 (conv=>whnf)
 refine⟨(c,e.dot),?_⟩
 repeat ((conv=>whnf);first|refine⟨rfl,?_⟩|refine⟨trivial,?_⟩)
 refine⟨hc,?_⟩
 (conv=>whnf)
 refine aA (fun h2=>?_) fun h2=>?_
 . have h2:dX c e.dot=true:=h2;have hA:dN ⟨c,k,d⟩ e=(⟨c,k,d⟩,false,0):=by unfold dN;rw[if_neg (by simp[h1]),if_pos h2]
   repeat' (first|exact trivial|(with_reducible exact rfl)|((conv=>whnf);first|(apply aA<;>intro)|apply And.intro))
   all_goals ((conv=>whnf);rw[hA])
 have h2:dX c e.dot=false:=h2
 (conv=>whnf)
 refine⟨(c,e.dot.dev,e.dot.inc),?_⟩
 repeat ((conv=>whnf);first|refine⟨rfl,?_⟩|refine⟨trivial,?_⟩)
 refine⟨hc,?_⟩
 (conv=>whnf)
 refine ah.2 ⟨by show bC .i64 (getM c e.dot.dev e.dot.inc+1)=true;rw[gJ];omega,?_⟩
 (conv=>whnf)
 refine aA (fun h3=>?_) fun h3=>?_
 . have h3:getM c e.dot.dev e.dot.inc+1≠e.dot.seq:=by
    have h3:(!((getM c e.dot.dev e.dot.inc+1)==e.dot.seq))=true:=h3;simpa using h3
   have hA:dN ⟨c,k,d⟩ e=(⟨c,k,d⟩,false,6):=by unfold dN;rw[if_neg (by simp[h1]),if_neg (by simp[h2]),if_pos h3]
   repeat' (first|exact trivial|(with_reducible exact rfl)|((conv=>whnf);first|(apply aA<;>intro)|apply And.intro))
   all_goals ((conv=>whnf);rw[hA])
 have h3:¬getM c e.dot.dev e.dot.inc+1≠e.dot.seq:=by
   have h3:(!((getM c e.dot.dev e.dot.inc+1)==e.dot.seq))=false:=h3;simpa using h3
 (conv=>whnf)
 refine aA (fun h4=>?_) fun h4=>?_
 . have h4:2048<=k.length:=by
    have h4:bG 2048 (Int.ofNat k.length)=true:=h4;rw[fg,Ae,Aa]at h4;omega
   have hA:dN ⟨c,k,d⟩ e=(⟨c,k,d⟩,false,9):=by unfold dN;rw[if_neg (by simp[h1]),if_neg (by simp[h2]),if_neg h3,if_pos h4]
   repeat' (first|exact trivial|(with_reducible exact rfl)|((conv=>whnf);first|(apply aA<;>intro)|apply And.intro))
   all_goals ((conv=>whnf);rw[hA])
 have h4:¬2048<=k.length:=by
   have h4:bG 2048 (Int.ofNat k.length)=false:=h4;rw[fg,Ai,Aa]at h4;omega
 have hA:dN ⟨c,k,d⟩ e=(⟨fx c e.dot.dev e.dot.inc e.dot.seq,eQ k e,cw bu (d++e.over)⟩,true,0):=by unfold dN;rw[if_neg (by simp[h1]),if_neg (by simp[h2]),if_neg h3,if_neg h4]
 have ap:∀n:Nat,n<=300000->(Nat.ble (n*24) 16777216&&Nat.ble n 16777216)=true:=fun n h=>by
   rw[Ab,AW,AW];omega
 (conv=>whnf)
 refine⟨(c,e.dot.dev,e.dot.inc,e.dot.seq),?_⟩
 repeat ((conv=>whnf);first|refine⟨rfl,?_⟩|refine⟨trivial,?_⟩)
 refine⟨hc,?_⟩
 (conv=>whnf)
 refine⟨(k,e),?_⟩
 repeat ((conv=>whnf);first|refine⟨rfl,?_⟩|refine⟨trivial,?_⟩)
 refine⟨hk,?_⟩
 (conv=>whnf)
 refine⟨fun _=>⟨rfl,rfl⟩,?_⟩
 (conv=>whnf)
 refine⟨d,rfl,?_⟩
 (conv=>whnf)
 refine ah.2 ⟨ap _ (by simp;omega),?_⟩
 (conv=>whnf)
 refine⟨fun _=>⟨rfl,rfl⟩,?_⟩
 (conv=>whnf)
 refine⟨e.over,rfl,?_⟩
 (conv=>whnf)
 refine ah.2 ⟨ap _ (by simp;omega),?_⟩
 (conv=>whnf)
 refine⟨[]++d++e.over,?_⟩
 repeat ((conv=>whnf);first|refine⟨rfl,?_⟩|refine⟨trivial,?_⟩)
 refine⟨by show(([]:List ag)++d++e.over).length<=300000;simp;omega,?_⟩
 repeat' (first|exact trivial|(with_reducible exact rfl)|((conv=>whnf);first|(apply aA<;>intro)|apply And.intro))
 all_goals ((conv=>whnf);rw[hA])
 all_goals (rw[BE];rfl))
end
section
variable [Inhabited aF]
noncomputable def vS (f:FuncId):Option aP:=bif Nat.beq f JF then some HK else zi f
theorem x8:∀g C,vS g=some C->CO g C:=bX OQ Hc
def ly:ay:=⟨[],[],[]⟩
def ey (l:List aa):ay:=l.foldl (fun m e=>(dN m e).1) ly
def qF (l:List aa):Prop:=l.length<=100/\ ∀e∈l,iw e=true
theorem rG {e:aa} (h:iw e=true):jW e/\e.over.length<=100:=by
 simp only[iw,Ab,fg,Ae,Aa]at h;exact⟨⟨by omega,by omega⟩,by omega⟩
theorem H4 (l:List ag) (a i n:Int):fx l a i n=bif (l.foldl (ff a i n) ([],false)).2 then(l.foldl (ff a i n) ([],false)).1 else(l.foldl (ff a i n) ([],false)).1++[⟨a,i,n⟩]:=rfl
theorem Lo {a i n:Int} {s:List ag×Bool} {x:ag} {P:ag->Prop} (hs:∀z∈s.1,P z) (hx:P x) (hn:P ⟨a,i,n⟩):∀z∈(ff a i n s x).1,P z:=by
 intro z hz;unfold ff at hz
 cases h1:(!s.2&& !kK x a i)<;>cases h2:fj x a i<;>simp only[h1,h2,A8,AJ,Ba,BM]at hz
 . rcases hz with hz|rfl
   . exact hs z hz
   . exact hx
 . exact hs z hz
 . rcases hz with(hz|rfl)|rfl
   . exact hs z hz
   . exact hn
   . exact hx
 . rcases hz with hz|rfl
   . exact hs z hz
   . exact hn
theorem Ot {l:List ag} {a i n:Int} {P:ag->Prop} (hl:∀z∈l,P z) (hn:P ⟨a,i,n⟩):∀z∈fx l a i n,P z:=by
 have key:∀(l:List ag) (s:List ag×Bool),(∀z∈l,P z)->(∀z∈s.1,P z)->∀z∈(l.foldl (ff a i n) s).1,P z:=by
   intro l;induction l with
   |nil=>intro s _ hs;exact hs
   |cons x l ih=>intro s hl hs;exact ih _ (fun z hz=>hl z (An _ hz)) (Lo hs (hl x Ao) hn)
 intro z hz;rw[H4]at hz;have h1:=key l ([],false) hl (fun z hz=>by cases hz)
 cases h:(l.foldl (ff a i n) ([],false)).2
 . rw[h]at hz;simp only[AJ,Ba,BM]at hz;rcases hz with hz|rfl
   . exact h1 z hz
   . exact hn
 . rw[h]at hz;exact h1 z hz
theorem Oq (l:List ag) (a i n:Int):(fx l a i n).length<=l.length+1:=by
 have key:∀(l:List ag) (s:List ag×Bool),(l.foldl (ff a i n) s).1.length+(bif (l.foldl (ff a i n) s).2 then 0 else 1)<=s.1.length+(bif s.2 then 0 else 1)+l.length:=by
  intro l;induction l with
  |nil=>intro s;simp
  | cons x l ih=>
   intro s;have h1:=ih (ff a i n s x);have h2:(ff a i n s x).1.length+(bif (ff a i n s x).2 then 0 else 1)<=s.1.length+(bif s.2 then 0 else 1)+1:=by
    unfold ff
    cases hs:s.2<;>cases kK x a i<;>cases fj x a i<;>simp[hs]<;>omega
   simp only[BF,A1];omega
 have h1:=key l ([],false);rw[H4]
 cases h:(l.foldl (ff a i n) ([],false)).2<;>rw[h]at h1<;>simp at h1⊢ <;>omega
structure dD (m:ay) (k:Nat):Prop where
 ctx:m.ctx.length<=k
 seq:∀x∈m.ctx,eL x=true
 kept:m.kept.length<=k
 dead:m.dead.length<=100*k
theorem Mo {x:ag} (h:eL x=true):0<=x.seq/\x.seq<=4294967296:=by
 simp only[eL,Ab,fg,Ae]at h;omega
theorem dD.ok {m:ay} {k:Nat} (h:dD m k) (hk:k<=1000):fT m:=⟨by have:=h.ctx;omega,fun x hx=>Mo (h.seq x hx),by have:=h.kept;omega,by have:=h.dead;omega⟩
theorem uv {e:aa} (h:fC e=true):eL e.dot=true:=by
 simp only[fC,Ab]at h;exact h.1.1.1.1
theorem GY (l:List aa) (e:aa):(eQ l e).length=l.length+1:=by
 unfold eQ;have:=oX (less:=nj) l e;simp[ji];omega
theorem Cj {m:ay} {e:aa} {k:Nat} (h:dD m k) (he:e.over.length<=100):dD (dN m e).1 (k+1):=by
 have same:dD m (k+1):=⟨by have:=h.ctx;omega,h.seq,by have:=h.kept;omega,by have:=h.dead;omega⟩;unfold dN;split
 . exact same
 . rename_i h1;have h1:fC e=true:=by simpa using h1
   split
   . exact same
   . split
     . exact same
     . split
       . exact same
       . refine⟨?_,Ot h.seq (uv h1),?_,?_⟩
         . have:=Oq m.ctx e.dot.dev e.dot.inc e.dot.seq;have:=h.ctx;show(fx m.ctx e.dot.dev e.dot.inc e.dot.seq).length<=_
           omega
         . show(eQ m.kept e).length<=_
           rw[GY];have:=h.kept;omega
         . show(cw bu (m.dead++e.over)).length<=_
           have h2:=qu (less:=bu) (m.dead++e.over) [];unfold cw;have:=h.dead;simp only[Bb,Bj,Ay]at h2;omega
theorem qg {l:List aa} (hl:∀e∈l,iw e=true):∀x,x<=l.length->dD (ey (l.take x)) x
 |0,_=>⟨by simp[ey,ly],by simp[ey,ly],by simp[ey,ly],by simp[ey,ly]⟩
 |x+1,h=>by
  have hx:x<l.length:=h;have h1:=qg hl x (by omega);have h2:ey (l.take (x+1))=(dN (ey (l.take x)) l[x]).1:=nP _ _ hx;rw[h2];exact Cj h1 (rG (hl _ (AF hx))).2
def Iq:aP:={Y:=List aa,pre:=qF,args:=fun y=>[cI y],res:=fun y=> .agg (ey y).enc}
def Qx (y:List aa):aK:={α:=Nat,ok:=fun x=>x<=y.length,μ:=fun x=>y.length - x,aU:=[2,3],aR:=fun x=>[(0,cI y),(4,i64 x)],bD:=fun x=>[(1, .cells (ey (y.take x)).enc Tc)]}
theorem Ig:CO pP Iq:=bZ (cfg:=fun y=>bU vS (cS pP 3 (Qx y))) bH (fun _=>rfl) (fun _=>x8) (n:=600) (by
 rintro(l:List aa) ⟨(hl:l.length<=100),(hlt:∀e∈l,iw e=true)⟩
 (conv=>whnf)
 refine⟨⟨(0:Nat),Av _,?_⟩,?_⟩
 . repeat' (first|exact trivial|(with_reducible exact rfl)|((conv=>whnf);first|(apply aA<;>intro)|apply And.intro))
   all_goals exact rfl
 intro (x:Nat) hx;have hx:x<=l.length:=hx
 (conv=>whnf)
 refine aA (fun hlt1=>?_) fun hge=>?_
 . have hlt':x<l.length:=cY hlt1;have hf:ey (l.take (x+1))=(dN (ey (l.take x)) l[x]).1:=nP _ _ hlt';have hb:=qg hlt x hx;have hsm:=rG (hlt _ (AF hlt'))
   (conv=>whnf)
   refine ar.2 ⟨_,dz hlt',?_⟩
   (conv=>whnf)
   refine⟨(ey (l.take x),l[x]),?_⟩
   repeat ((conv=>whnf);first|refine⟨rfl,?_⟩|refine⟨trivial,?_⟩)
   refine⟨⟨hb.ok (by omega),hsm.1,by have:=hsm.2;show l[x].over.length<=100000;omega⟩,?_⟩
   (conv=>whnf)
   refine ah.2 ⟨cM x (by omega),?_⟩
   (conv=>whnf)
   refine⟨(x+1:Nat),hlt',by show l.length - (x+1)<l.length - x;omega,?_⟩
   repeat' (first|exact trivial|(with_reducible exact rfl)|((conv=>whnf);first|(apply aA<;>intro)|apply And.intro))
   all_goals first|exact rfl|(rw[hf];exact rfl)
 . have hge':l.length<=x:=fY hge;have e:l.take x=l:=As hge'
   repeat' (first|exact trivial|(with_reducible exact rfl)|((conv=>whnf);first|(apply aA<;>intro)|apply And.intro))
   all_goals first|exact rfl|(rw[e];done)|(rw[e];exact rfl))
end
end Go.Proofs
