/- Part 8: an evaluator, proved sound, and its use at this seat; no condition. -/
import Derived.Test.YtmfohfbdddlilaaGreatP4
import Derived.Test.YtmfohfbdddlilaaGreatP7
set_option linter.unusedSimpArgs false
set_option linter.unusedVariables false
set_option linter.unusedSectionVars false
set_option linter.deprecated false
set_option maxRecDepth 100000
set_option maxHeartbeats 4000000
namespace Go.Proofs
open Go Go.Am Go.RowKit Go.Sy
section
variable [Inhabited aL]
def o8 (x y:ae):Bool:=bS x.dot y.dot
def kq (l:List ae) (e:ae):Nat:=cV o8 l e
def fw (l:List ae) (e:ae):List ae:=l.take (kq l e)++e::l.drop (kq l e)
def Ny:aN:={Y:=List ae×ae,pre:=fun y=>y.1.length<=50000,args:=fun y=>[cG y.1, .agg y.2.enc],res:=fun y=>cG (fw y.1 y.2)}
def Pt (y:List ae×ae):aI:={α:=Nat,ok:=fun k=>k<=kq y.1 y.2,μ:=fun k=>y.1.length - k,aX:=[3],aS:=fun k=>[(0,cG y.1),(5,i64 k)],bw:=fun _=>[]}
def ey (m:aJ) (e:ae):aJ×Bool×Int:=
 if gm e=false then(m,false,1)else if eI m.ctx e.dot=true then(m,false,0)else if getM m.ctx e.dot.dev e.dot.inc+1≠e.dot.seq then(m,false,6)else if 2048<=m.kept.length then(m,false,9)
 else(⟨fZ m.ctx e.dot.dev e.dot.inc e.dot.seq,fw m.kept e,cS bS (m.dead++e.over)⟩,true,0)
structure gL (m:aJ):Prop where
 ctx:m.ctx.length<=100000
 seq:∀x∈m.ctx,0<=x.seq/\x.seq<=4294967296
 kept:m.kept.length<=50000
 dead:m.dead.length<=100000
theorem JE {l:List aj} (h:∀x∈l,0<=x.seq/\x.seq<=4294967296) (a i:Int):0<=getM l a i/\getM l a i<=4294967296:=by
 unfold getM
 cases e:l.find? (fun x=>fL x a i)with
 |none=>simp
 |some x=>exact h x (Ff e)
def Md:aN:={Y:=aJ×ae,pre:=fun y=>gL y.1/\lr y.2/\y.2.over.length<=100000,args:=fun y=>[.agg y.1.enc, .agg y.2.enc],res:=fun y=> .bG [.agg (ey y.1 y.2).1.enc, .bool (ey y.1 y.2).2.1,i64 (ey y.1 y.2).2.2]}
theorem Zv:CO G7 Ny:=bZ (cfg:=fun y=>cz Gl (cD G7 2 (Pt y))) bC (fun _=>rfl) (fun _=>LO) (n:=600) (by
 rintro⟨l,e⟩ (hl:l.length<=50000)
 (conv=>whnf)
 refine⟨⟨(0:Nat),Aw _,?_⟩,?_⟩
 . repeat' (first|exact trivial|exact rfl|((conv=>whnf);first|(apply aK<;>intro)|apply And.intro))
 intro (k:Nat) hk;have hk:k<=cV o8 l e:=hk;have hkp:=qF (less:=o8) l e;have hkl:k<=l.length:=by omega
 have ap:∀n:Nat,n<=60000->(Nat.ble (n*176) 16777216&&Nat.ble n 16777216)=true:=fun n h=>by
   rw[Aa,AG,AG];omega
 (conv=>whnf)
 refine ah.2 ⟨fun hlt=> ?ga,fun hge=> ?gb⟩
 case' ga=>
   have hlt':k<l.length:=cB hlt
   (conv=>whnf)
   refine au.2 ⟨_,cO hlt',?_⟩
   (conv=>whnf)
   refine⟨(l[k].dot,e.dot),?_⟩
   repeat ((conv=>whnf);first|refine⟨rfl,?_⟩|refine⟨trivial,?_⟩)
   (conv=>whnf)
   refine ah.2 ⟨fun h=> ?gc,fun h=> ?gd⟩
   case gc=>
     have h:o8 l[k] e=true:=h
     (conv=>whnf)
     refine ag.2 ⟨cu k (by omega),?_⟩
     (conv=>whnf)
     refine⟨(k+1:Nat),Cc hk hlt' h,by show l.length - (k+1)<l.length - k;omega,?_⟩
     repeat' (first|exact trivial|exact rfl|((conv=>whnf);first|(apply aK<;>intro)|apply And.intro))
   case' gd=>
     have h:o8 l[k] e=false:=h;have hkk:k=cV o8 l e:=Cd hk hlt' h
 case' gb=>
   have hge':l.length<=k:=gr hge;have hkk:k=cV o8 l e:=by omega
 all_goals
   repeat (first|((conv=>whnf);refine⟨fun _=>rfl,?_⟩)|((conv=>whnf);refine⟨fun _=>⟨rfl,rfl⟩,?_⟩)|((conv=>whnf);refine⟨e,rfl,?_⟩)|((conv=>whnf);refine⟨(_:List ae),rfl,?_⟩)|((conv=>whnf);refine ag.2 ⟨by(show Nat.ble k l.length=true;rw[AG];exact hkl),?_⟩)|((conv=>whnf);refine ag.2 ⟨ap _ (by simp;omega),?_⟩))
   (conv=>whnf)
   refine⟨?_,?_⟩
   . show SV.ar ae _ ae.enc=SV.ar ae (fw l e) ae.enc
     unfold fw kq;rw[<-hkk];simp
   . repeat' (first|exact trivial|exact rfl|((conv=>whnf);first|(apply aK<;>intro)|apply And.intro)))
noncomputable def Gn (f:FuncId):Option aN:=bif Nat.beq f G7 then some Ny else Gl f
theorem LP:∀g C,Gn g=some C->CO g C:=bR Zv LO
theorem VW:CO HL Md:=bZ (cfg:=fun y=>cz Gn (cW y)) bC (fun _=>rfl) (fun _=>LP) (n:=600) (by
 rintro⟨⟨c,k,d⟩,e⟩ ⟨⟨(hc:c.length<=100000),(hs:∀x∈c,0<=x.seq/\x.seq<=4294967296),(hk:k.length<=50000),(hd:d.length<=100000)⟩,(hse:lr e),(ho:e.over.length<=100000)⟩;have hr:=JE hs e.dot.dev e.dot.inc
 (conv=>whnf)
 refine⟨e,?_⟩
 repeat ((conv=>whnf);first|refine⟨rfl,?_⟩|refine⟨trivial,?_⟩)
 refine⟨hse,?_⟩
 (conv=>whnf)
 refine aK (fun h1=>?_) fun h1=>?_
 . have h1:gm e=false:=by simpa using h1
   have hA:ey ⟨c,k,d⟩ e=(⟨c,k,d⟩,false,1):=by unfold ey;rw[if_pos h1]
   repeat' (first|exact trivial|(with_reducible exact rfl)|((conv=>whnf);first|(apply aK<;>intro)|apply And.intro))
   all_goals ((conv=>whnf);rw[hA])
 have h1:gm e=true:=by simpa using h1
 (conv=>whnf)
 refine⟨(c,e.dot),?_⟩
 repeat ((conv=>whnf);first|refine⟨rfl,?_⟩|refine⟨trivial,?_⟩)
 refine⟨hc,?_⟩
 (conv=>whnf)
 refine aK (fun h2=>?_) fun h2=>?_
 . have h2:eI c e.dot=true:=h2;have hA:ey ⟨c,k,d⟩ e=(⟨c,k,d⟩,false,0):=by unfold ey;rw[if_neg (by simp[h1]),if_pos h2]
   repeat' (first|exact trivial|(with_reducible exact rfl)|((conv=>whnf);first|(apply aK<;>intro)|apply And.intro))
   all_goals ((conv=>whnf);rw[hA])
 have h2:eI c e.dot=false:=h2
 (conv=>whnf)
 refine⟨(c,e.dot.dev,e.dot.inc),?_⟩
 repeat ((conv=>whnf);first|refine⟨rfl,?_⟩|refine⟨trivial,?_⟩)
 refine⟨hc,?_⟩
 (conv=>whnf)
 refine ag.2 ⟨by show bq .i64 (getM c e.dot.dev e.dot.inc+1)=true;rw[iq];omega,?_⟩
 (conv=>whnf)
 refine aK (fun h3=>?_) fun h3=>?_
 . have h3:getM c e.dot.dev e.dot.inc+1≠e.dot.seq:=by
    have h3:(!((getM c e.dot.dev e.dot.inc+1)==e.dot.seq))=true:=h3;simpa using h3
   have hA:ey ⟨c,k,d⟩ e=(⟨c,k,d⟩,false,6):=by unfold ey;rw[if_neg (by simp[h1]),if_neg (by simp[h2]),if_pos h3]
   repeat' (first|exact trivial|(with_reducible exact rfl)|((conv=>whnf);first|(apply aK<;>intro)|apply And.intro))
   all_goals ((conv=>whnf);rw[hA])
 have h3:¬getM c e.dot.dev e.dot.inc+1≠e.dot.seq:=by
   have h3:(!((getM c e.dot.dev e.dot.inc+1)==e.dot.seq))=false:=h3;simpa using h3
 (conv=>whnf)
 refine aK (fun h4=>?_) fun h4=>?_
 . have h4:2048<=k.length:=by
    have h4:bV 2048 (Int.ofNat k.length)=true:=h4;rw[fc,Ad,Ac]at h4;omega
   have hA:ey ⟨c,k,d⟩ e=(⟨c,k,d⟩,false,9):=by unfold ey;rw[if_neg (by simp[h1]),if_neg (by simp[h2]),if_neg h3,if_pos h4]
   repeat' (first|exact trivial|(with_reducible exact rfl)|((conv=>whnf);first|(apply aK<;>intro)|apply And.intro))
   all_goals ((conv=>whnf);rw[hA])
 have h4:¬2048<=k.length:=by
   have h4:bV 2048 (Int.ofNat k.length)=false:=h4;rw[fc,Ah,Ac]at h4;omega
 have hA:ey ⟨c,k,d⟩ e=(⟨fZ c e.dot.dev e.dot.inc e.dot.seq,fw k e,cS bS (d++e.over)⟩,true,0):=by unfold ey;rw[if_neg (by simp[h1]),if_neg (by simp[h2]),if_neg h3,if_neg h4]
 have ap:∀n:Nat,n<=300000->(Nat.ble (n*24) 16777216&&Nat.ble n 16777216)=true:=fun n h=>by
   rw[Aa,AG,AG];omega
 (conv=>whnf)
 refine⟨(c,e.dot.dev,e.dot.inc,e.dot.seq),?_⟩
 repeat ((conv=>whnf);first|refine⟨rfl,?_⟩|refine⟨trivial,?_⟩)
 refine⟨hc,?_⟩
 (conv=>whnf)
 refine⟨(k,e),?_⟩
 repeat ((conv=>whnf);first|refine⟨rfl,?_⟩|refine⟨trivial,?_⟩)
 refine⟨hk,?_⟩
 (conv=>whnf)
 refine⟨fun _=>⟨rfl,rfl⟩,?_⟩
 (conv=>whnf)
 refine⟨d,rfl,?_⟩
 (conv=>whnf)
 refine ag.2 ⟨ap _ (by simp;omega),?_⟩
 (conv=>whnf)
 refine⟨fun _=>⟨rfl,rfl⟩,?_⟩
 (conv=>whnf)
 refine⟨e.over,rfl,?_⟩
 (conv=>whnf)
 refine ag.2 ⟨ap _ (by simp;omega),?_⟩
 (conv=>whnf)
 refine⟨[]++d++e.over,?_⟩
 repeat ((conv=>whnf);first|refine⟨rfl,?_⟩|refine⟨trivial,?_⟩)
 refine⟨by show(([]:List aj)++d++e.over).length<=300000;simp;omega,?_⟩
 repeat' (first|exact trivial|(with_reducible exact rfl)|((conv=>whnf);first|(apply aK<;>intro)|apply And.intro))
 all_goals ((conv=>whnf);rw[hA])
 all_goals (rw[BR];rfl))
end
section
variable [Inhabited aL]
noncomputable def yx (f:FuncId):Option aN:=bif Nat.beq f HL then some Md else Gn f
theorem CM:∀g C,yx g=some C->CO g C:=bR VW LP
def mS:aJ:=⟨[],[],[]⟩
def dV (l:List ae):aJ:=l.foldl (fun m e=>(ey m e).1) mS
def te (l:List ae):Prop:=l.length<=100/\ ∀e∈l,iA e=true
theorem uf {e:ae} (h:iA e=true):lr e/\e.over.length<=100:=by
 simp only[iA,Aa,fc,Ad,Ac]at h;exact⟨⟨by omega,by omega⟩,by omega⟩
theorem ML (l:List aj) (a i n:Int):fZ l a i n=bif (l.foldl (fI a i n) ([],false)).2 then(l.foldl (fI a i n) ([],false)).1 else(l.foldl (fI a i n) ([],false)).1++[⟨a,i,n⟩]:=rfl
theorem Sn {a i n:Int} {s:List aj×Bool} {x:aj} {P:aj->Prop} (hs:∀z∈s.1,P z) (hx:P x) (hn:P ⟨a,i,n⟩):∀z∈(fI a i n s x).1,P z:=by
 intro z hz;unfold fI at hz
 cases h1:(!s.2&& !me x a i)<;>cases h2:fL x a i<;>simp only[h1,h2,Bh,AS,A9,BQ]at hz
 . rcases hz with hz|rfl
   . exact hs z hz
   . exact hx
 . exact hs z hz
 . rcases hz with(hz|rfl)|rfl
   . exact hs z hz
   . exact hn
   . exact hx
 . rcases hz with hz|rfl
   . exact hs z hz
   . exact hn
theorem WQ {l:List aj} {a i n:Int} {P:aj->Prop} (hl:∀z∈l,P z) (hn:P ⟨a,i,n⟩):∀z∈fZ l a i n,P z:=by
 have key:∀(l:List aj) (s:List aj×Bool),(∀z∈l,P z)->(∀z∈s.1,P z)->∀z∈(l.foldl (fI a i n) s).1,P z:=by
   intro l;induction l with
   |nil=>intro s _ hs;exact hs
   |cons x l ih=>intro s hl hs;exact ih _ (fun z hz=>hl z (Ao _ hz)) (Sn hs (hl x An) hn)
 intro z hz;rw[ML]at hz;have h1:=key l ([],false) hl (fun z hz=>by cases hz)
 cases h:(l.foldl (fI a i n) ([],false)).2
 . rw[h]at hz;simp only[AS,A9,BQ]at hz;rcases hz with hz|rfl
   . exact h1 z hz
   . exact hn
 . rw[h]at hz;exact h1 z hz
theorem WO (l:List aj) (a i n:Int):(fZ l a i n).length<=l.length+1:=by
 have key:∀(l:List aj) (s:List aj×Bool),(l.foldl (fI a i n) s).1.length+(bif (l.foldl (fI a i n) s).2 then 0 else 1)<=s.1.length+(bif s.2 then 0 else 1)+l.length:=by
  intro l;induction l with
  |nil=>intro s;simp
  | cons x l ih=>
   intro s;have h1:=ih (fI a i n s x);have h2:(fI a i n s x).1.length+(bif (fI a i n s x).2 then 0 else 1)<=s.1.length+(bif s.2 then 0 else 1)+1:=by
    unfold fI
    cases hs:s.2<;>cases me x a i<;>cases fL x a i<;>simp[hs]<;>omega
   simp only[Bt,AA];omega
 have h1:=key l ([],false);rw[ML]
 cases h:(l.foldl (fI a i n) ([],false)).2<;>rw[h]at h1<;>simp at h1⊢ <;>omega
structure ed (m:aJ) (k:Nat):Prop where
 ctx:m.ctx.length<=k
 seq:∀x∈m.ctx,fk x=true
 kept:m.kept.length<=k
 dead:m.dead.length<=100*k
theorem Um {x:aj} (h:fk x=true):0<=x.seq/\x.seq<=4294967296:=by
 simp only[fk,Aa,fc,Ad]at h;omega
theorem ed.ok {m:aJ} {k:Nat} (h:ed m k) (hk:k<=1000):gL m:=⟨by have:=h.ctx;omega,fun x hx=>Um (h.seq x hx),by have:=h.kept;omega,by have:=h.dead;omega⟩
theorem wT {e:ae} (h:gm e=true):fk e.dot=true:=by
 simp only[gm,Aa]at h;exact h.1.1.1.1
theorem LB (l:List ae) (e:ae):(fw l e).length=l.length+1:=by
 unfold fw;have:=qF (less:=o8) l e;simp[kq];omega
theorem IQ {m:aJ} {e:ae} {k:Nat} (h:ed m k) (he:e.over.length<=100):ed (ey m e).1 (k+1):=by
 have same:ed m (k+1):=⟨by have:=h.ctx;omega,h.seq,by have:=h.kept;omega,by have:=h.dead;omega⟩;unfold ey;split
 . exact same
 . rename_i h1;have h1:gm e=true:=by simpa using h1
   split
   . exact same
   . split
     . exact same
     . split
       . exact same
       . refine⟨?_,WQ h.seq (wT h1),?_,?_⟩
         . have:=WO m.ctx e.dot.dev e.dot.inc e.dot.seq;have:=h.ctx;show(fZ m.ctx e.dot.dev e.dot.inc e.dot.seq).length<=_
           omega
         . show(fw m.kept e).length<=_
           rw[LB];have:=h.kept;omega
         . show(cS bS (m.dead++e.over)).length<=_
           have h2:=sm (less:=bS) (m.dead++e.over) [];unfold cS;have:=h.dead;simp only[AK,A5,Ax]at h2;omega
theorem rX {l:List ae} (hl:∀e∈l,iA e=true):∀x,x<=l.length->ed (dV (l.take x)) x
 |0,_=>⟨by simp[dV,mS],by simp[dV,mS],by simp[dV,mS],by simp[dV,mS]⟩
 |x+1,h=>by
  have hx:x<l.length:=h;have h1:=rX hl x (by omega);have h2:dV (l.take (x+1))=(ey (dV (l.take x)) l[x]).1:=ln _ _ hx;rw[h2];exact IQ h1 (uf (hl _ (AJ hx))).2
def Nf:aN:={Y:=List ae,pre:=te,args:=fun y=>[cG y],res:=fun y=> .agg (dV y).enc}
def YQ (y:List ae):aI:={α:=Nat,ok:=fun x=>x<=y.length,μ:=fun x=>y.length - x,aX:=[2,3],aS:=fun x=>[(0,cG y),(4,i64 x)],bw:=fun x=>[(1, .cells (dV (y.take x)).enc Qo)]}
theorem Mr:CO GX Nf:=bZ (cfg:=fun y=>cz yx (cD GX 3 (YQ y))) bC (fun _=>rfl) (fun _=>CM) (n:=600) (by
 rintro(l:List ae) ⟨(hl:l.length<=100),(hlt:∀e∈l,iA e=true)⟩
 (conv=>whnf)
 refine⟨⟨(0:Nat),Aw _,?_⟩,?_⟩
 . repeat' (first|exact trivial|(with_reducible exact rfl)|((conv=>whnf);first|(apply aK<;>intro)|apply And.intro))
   all_goals exact rfl
 intro (x:Nat) hx;have hx:x<=l.length:=hx
 (conv=>whnf)
 refine aK (fun hlt1=>?_) fun hge=>?_
 . have hlt':x<l.length:=cB hlt1;have hf:dV (l.take (x+1))=(ey (dV (l.take x)) l[x]).1:=ln _ _ hlt';have hb:=rX hlt x hx;have hsm:=uf (hlt _ (AJ hlt'))
   (conv=>whnf)
   refine au.2 ⟨_,cO hlt',?_⟩
   (conv=>whnf)
   refine⟨(dV (l.take x),l[x]),?_⟩
   repeat ((conv=>whnf);first|refine⟨rfl,?_⟩|refine⟨trivial,?_⟩)
   refine⟨⟨hb.ok (by omega),hsm.1,by have:=hsm.2;show l[x].over.length<=100000;omega⟩,?_⟩
   (conv=>whnf)
   refine ag.2 ⟨cu x (by omega),?_⟩
   (conv=>whnf)
   refine⟨(x+1:Nat),hlt',by show l.length - (x+1)<l.length - x;omega,?_⟩
   repeat' (first|exact trivial|(with_reducible exact rfl)|((conv=>whnf);first|(apply aK<;>intro)|apply And.intro))
   all_goals first|exact rfl|(rw[hf];exact rfl)
 . have hge':l.length<=x:=gr hge;have e:l.take x=l:=Ay hge'
   repeat' (first|exact trivial|(with_reducible exact rfl)|((conv=>whnf);first|(apply aK<;>intro)|apply And.intro))
   all_goals first|exact rfl|(rw[e];done)|(rw[e];exact rfl))
end
section
variable [Inhabited aL]
def lp (m:aJ) (e:ae):Bool:=(e.kind==1)&& !decide (e.dot∈m.dead)
def ct (m:aJ):List ae:=m.kept.filter (lp m)
def aR (m:aJ) (k:aA):List ae:=(ct m).filter fun e=>decide (e.key=k)
def gU:ae:=⟨⟨0,0,0⟩,⟨0,0,0⟩,0,qH,⟨[],false,false,false,false,0,0,0⟩,[]⟩
def dT (l:List ae):Option ae:=l.foldl (fun b e=>match b with|none=>some e|some y=>if kR e.bp y.bp then some y else some e) none
def dS (m:aJ) (k:aA):ae×Bool:=((dT (aR m k)).getD gU,(dT (aR m k)).isSome)
def kU (x y:ae):Bool:=fy x.key y.key
def jy (out:List ae) (w:ae):List ae:=out.take (cV kU out w)++w::out.drop (cV kU out w)
def cP (m:aJ) (l:List ae):List ae:=l.foldl (fun out x=>if(dS m x.key).1.dot=x.dot then jy out (dS m x.key).1 else out) []
def fC (m:aJ):List ae:=cP m (ct m)
def dF (m:aJ):List aa:=(fC m).map ae.item
def mU (m:aJ) (k:aA):List aj:=(aR m k).map (·.dot)
def Hi (l:List ae):SO:= .arr ae l ae.enc yT
def Mc:aN:={Y:=aJ,pre:=gL,args:=fun y=>[.agg y.enc],res:=fun y=>cG (ct y)}
def XF (y:aJ):aI:={α:=Nat,ok:=fun i=>i<=y.kept.length,μ:=fun i=>y.kept.length - i,aX:=[1],aS:=fun i=>[(3, .own 1),(4,i64 i)],bw:=fun i=>[(1,Hi ((y.kept.take i).filter (lp y)))]}
def NS:aN:={Y:=aJ×aA,pre:=fun y=>gL y.1,args:=fun y=>[.agg y.1.enc, .agg y.2.enc],res:=fun y=>cG (aR y.1 y.2)}
def Ps (y:aJ×aA):aI:={α:=Nat,ok:=fun i=>i<=(ct y.1).length,μ:=fun i=>(ct y.1).length - i,aX:=[3],aS:=fun i=>[(5, .own 2),(6,cG (ct y.1)),(7,i64 i)],bw:=fun i=>[(2,Hi (((ct y.1).take i).filter fun e=>decide (e.key=y.2)))]}
def K5:aN:={Y:=aJ×aA,pre:=fun y=>gL y.1,args:=fun y=>[.agg y.1.enc, .agg y.2.enc],res:=fun y=> .bG [.agg (dS y.1 y.2).1.enc, .bool (dS y.1 y.2).2]}
def Vy (y:aJ×aA):aI:=let l:=aR y.1 y.2;{α:=Nat,ok:=fun i=>i<=l.length,μ:=fun i=>l.length - i,aX:=[4,7],aS:=fun i=>[(6,cG l),(8,i64 i)],bw:=fun i=>[(3, .cells ((dT (l.take i)).getD gU).enc yT)]}
def JM:aN:={Y:=aJ,pre:=gL,args:=fun y=>[.agg y.enc],res:=fun y=>cG (fC y)}
def wI (y:aJ):aI:=let l:=ct y;{α:=Nat,ok:=fun i=>i<=l.length,μ:=fun i=>l.length - i,aX:=[1],aS:=fun i=>[(3,cG (cP y (l.take i))),(4,cG l),(5,i64 i)],bw:=fun _=>[],fo:=[3]}
def Td (y:aJ):aI:=let l:=ct y;{α:=Nat×Nat,ok:=fun x=>∃h:x.1<l.length,x.2<=cV kU (cP y (l.take x.1)) (dS y l[x.1].key).1,μ:=fun x=>(cP y (l.take x.1)).length - x.2,aX:=[1,6],aS:=fun x=>[(3,cG (cP y (l.take x.1))),(4,cG l),(5,i64 x.1),(8,i64 x.2)],bw:=fun _=>[],link:=some fun a b=>b.1=a.1}
def Mf:aN:={Y:=aJ,pre:=gL,args:=fun y=>[.agg y.enc],res:=fun y=>ec (dF y)}
def XG (y:aJ):aI:=let l:=fC y;{α:=Nat,ok:=fun i=>i<=l.length,μ:=fun i=>l.length - i,aX:=[],aS:=fun i=>[(3, .own 1),(4,cG l),(5,i64 i)],bw:=fun i=>[(1,om ((l.take i).map ae.item))]}
theorem CY {α:Type} {p:α->Bool} {l:List α} {x:Nat} (h:x<l.length):(l.take (x+1)).filter p=(l.take x).filter p++if p l[x]then[l[x]]else[]:=by
 rw[AF h,Dq];by_cases hp:p l[x]=true<;>simp[hp]
theorem MW {α:Type} {p:α->Bool} {l:List α} {x:Nat}:((l.take x).filter p).length<=x:=Aq (AL _ _) (by simp;omega)
theorem F9 {α:Type} {p:α->Bool} {l:List α} {x:Nat} (h:¬(x:Int)<Int.ofNat l.length):(l.take x).filter p=l.filter p:=by
 rw[Ay (by simp only[Ac]at h;omega)]
theorem wY {α β:Type} (f:α->β) {l:List α} {x:Nat} (h:x<l.length):(l.take (x+1)).map f=(l.take x).map f++[f l[x]]:=by
 rw[AF h,A1];rfl
theorem wJ {m:aJ} (h:gL m):(ct m).length<=50000:=Aq (AL _ _) h.kept
theorem C3 {m:aJ} (h:gL m) (k:aA):(aR m k).length<=50000:=Aq (AL _ _) (wJ h)
theorem Wn (out:List ae) (w:ae):(jy out w).length=out.length+1:=by
 unfold jy;have:=qF (less:=kU) out w;simp;omega
theorem xg (m:aJ):∀(l out:List ae),(l.foldl (fun out x=>if(dS m x.key).1.dot=x.dot then jy out (dS m x.key).1 else out) out).length<=out.length+l.length
 |[],out=>by simp
 | x::l,out=>by
  have h1:=xg m l (if(dS m x.key).1.dot=x.dot then jy out (dS m x.key).1 else out);have h2:(if(dS m x.key).1.dot=x.dot then jy out (dS m x.key).1 else out).length<=out.length+1:=by
   split
   . rw[Wn];omega
   . omega
  simp only[Bt,AA];omega
theorem wA {m:aJ} (h:gL m):(fC m).length<=50000:=by
 have h1:=xg m (ct m) [];have h2:=wJ h;unfold fC cP;simp only[AK,Ax]at h1;omega
theorem tF (n:Nat) (h:n<=60000):(Nat.ble (n*176) 16777216&&Nat.ble n 16777216)=true:=by
 rw[Aa,AG,AG];omega
theorem vL (n:Nat) (h:n<=60000):(Nat.ble (n*96) 16777216&&Nat.ble n 16777216)=true:=by
 rw[Aa,AG,AG];omega
theorem y6 (n:Nat) (h:n<=600000):(Nat.ble (n*24) 16777216&&Nat.ble n 16777216)=true:=by
 rw[Aa,AG,AG];omega
theorem VV:CO rN Mc:=bZ (cfg:=fun y=>cz yx (cD rN 3 (XF y))) bC (fun _=>rfl) (fun _=>CM) (n:=600) (by
 rintro⟨c,k,d⟩ ⟨(h1:c.length<=100000),h2,(h3:k.length<=50000),(h4:d.length<=100000)⟩
 (conv=>whnf)
 refine⟨⟨(0:Nat),Aw _,?_⟩,?_⟩
 . repeat' (first|exact trivial|exact rfl|((conv=>whnf);first|(apply aK<;>intro)|apply And.intro))
 intro (x:Nat) hx;have hx:x<=k.length:=hx;have hlen:=AL (lp ⟨c,k,d⟩) (k.take x);rw[Bi]at hlen
 (conv=>whnf)
 refine aK (fun hlt=>?_) fun hge=>?_
 . have hlt':x<k.length:=cB hlt;have hf:=CY (p:=lp ⟨c,k,d⟩) hlt';have mu:k.length - (x+1)<k.length - x:=by omega
   have hz:((k.take x).filter (lp ⟨c,k,d⟩)).length+1<=60000:=by omega
   (conv=>whnf)
   refine au.2 ⟨_,cO hlt',?_⟩
   (conv=>whnf)
   refine ah.2 ⟨fun h5=> ?ga,fun h5=> ?gb⟩
   case' ga=>
    have h5:(k[x].kind==1)=true:=h5
    (conv=>whnf)
    refine au.2 ⟨_,cO hlt',?_⟩
    (conv=>whnf)
    refine⟨(d,k[x].dot),?_⟩
    repeat ((conv=>whnf);first|refine⟨rfl,?_⟩|refine⟨trivial,?_⟩)
    refine⟨by show d.length<=1000000;omega,?_⟩
    (conv=>whnf)
    refine ah.2 ⟨fun h6=> ?gc,fun h6=> ?gd⟩
    case gc=>
     have h6:(!decide (k[x].dot∈d))=true:=h6;have hA:lp ⟨c,k,d⟩ k[x]=true:=by simp only[lp,h5,h6,EL]
     simp only[hA,if_true]at hf
     (conv=>whnf)
     refine au.2 ⟨_,cO hlt',?_⟩
     (conv=>whnf)
     refine⟨k[x],rfl,?_⟩
     (conv=>whnf)
     refine ag.2 ⟨tF _ hz,?_⟩
     (conv=>whnf)
     refine ag.2 ⟨cu x (by omega),?_⟩
     (conv=>whnf)
     refine⟨(x+1:Nat),hlt',mu,?_⟩
     repeat' (first|exact trivial|exact rfl|((conv=>whnf);first|(apply aK<;>intro)|apply And.intro))
     all_goals ((conv=>whnf);rw[hf])
    case' gd=>
     have h6:(!decide (k[x].dot∈d))=false:=h6;have hA:lp ⟨c,k,d⟩ k[x]=false:=by simp only[lp,h6,B9]
   case' gb=>
    have h5:(k[x].kind==1)=false:=h5;have hA:lp ⟨c,k,d⟩ k[x]=false:=by simp only[lp,h5,Bb]
   all_goals
    simp only[hA,Ak,AB,Bu]at hf
    (conv=>whnf)
    refine ag.2 ⟨cu x (by omega),?_⟩
    (conv=>whnf)
    refine⟨(x+1:Nat),hlt',mu,?_⟩
    repeat' (first|exact trivial|exact rfl|((conv=>whnf);first|(apply aK<;>intro)|apply And.intro))
    all_goals ((conv=>whnf);rw[hf])
 . (conv=>whnf)
   refine⟨by rw[F9 (gQ hge)];rfl,?_⟩
   repeat' (first|exact trivial|exact rfl|((conv=>whnf);first|(apply aK<;>intro)|apply And.intro)))
noncomputable def Gp (f:FuncId):Option aN:=bif Nat.beq f rN then some Mc else yx f
theorem LQ:∀g C,Gp g=some C->CO g C:=bR VV CM
theorem Zn:CO G6 NS:=bZ (cfg:=fun y=>cz Gp (cD G6 4 (Ps y))) bC (fun _=>rfl) (fun _=>LQ) (n:=600) (by
 rintro⟨m,k⟩ (hm:gL m);have hal:=wJ hm
 (conv=>whnf)
 refine⟨m,?_⟩
 repeat ((conv=>whnf);first|refine⟨rfl,?_⟩|refine⟨trivial,?_⟩)
 refine⟨hm,?_⟩
 (conv=>whnf)
 refine⟨⟨(0:Nat),Aw _,?_⟩,?_⟩
 . repeat' (first|exact trivial|exact rfl|((conv=>whnf);first|(apply aK<;>intro)|apply And.intro))
 intro (x:Nat) hx;have hx:x<=(ct m).length:=hx;have hlen:=MW (l:=ct m) (x:=x) (p:=fun e:ae=>decide (e.key=k))
 (conv=>whnf)
 refine aK (fun hlt=>?_) fun hge=>?_
 . have hlt':x<(ct m).length:=cB hlt;have hf:=CY (p:=fun e:ae=>decide (e.key=k)) hlt';have mu:(ct m).length - (x+1)<(ct m).length - x:=by omega
   have hz:(((ct m).take x).filter fun e:ae=>decide (e.key=k)).length+1<=60000:=by omega
   (conv=>whnf)
   refine au.2 ⟨_,cO hlt',?_⟩
   (conv=>whnf)
   refine aK (fun h=>?_) fun h=>?_
   . have h:decide ((ct m)[x].key=k)=true:=by rw[oO]at h;exact h
     simp only[h,if_true]at hf
     (conv=>whnf)
     refine au.2 ⟨_,cO hlt',?_⟩
     (conv=>whnf)
     refine⟨(ct m)[x],rfl,?_⟩
     (conv=>whnf)
     refine ag.2 ⟨tF _ hz,?_⟩
     (conv=>whnf)
     refine ag.2 ⟨cu x (by omega),?_⟩
     (conv=>whnf)
     refine⟨(x+1:Nat),hlt',mu,?_⟩
     repeat' (first|exact trivial|exact rfl|((conv=>whnf);first|(apply aK<;>intro)|apply And.intro))
     all_goals ((conv=>whnf);rw[hf])
   . have h:decide ((ct m)[x].key=k)=false:=by rw[oO]at h;exact h
     simp only[h,Ak,AB,Bu]at hf
     (conv=>whnf)
     refine ag.2 ⟨cu x (by omega),?_⟩
     (conv=>whnf)
     refine⟨(x+1:Nat),hlt',mu,?_⟩
     repeat' (first|exact trivial|exact rfl|((conv=>whnf);first|(apply aK<;>intro)|apply And.intro))
     all_goals ((conv=>whnf);rw[hf])
 . (conv=>whnf)
   refine⟨by rw[F9 (gQ hge)];rfl,?_⟩
   repeat' (first|exact trivial|exact rfl|((conv=>whnf);first|(apply aK<;>intro)|apply And.intro)))
noncomputable def Gq (f:FuncId):Option aN:=bif Nat.beq f G6 then some NS else Gp f
theorem LR:∀g C,Gq g=some C->CO g C:=bR Zn LQ
theorem xh {l:List ae} {x:Nat} (h:x<l.length):dT (l.take (x+1))=some (match dT (l.take x)with|none=>l[x]|some y=>if kR l[x].bp y.bp then y else l[x]):=by
 unfold dT;rw[ln _ _ h];generalize (l.take x).foldl _ none=b
 cases b with
 |none=>rfl
 |some y=>simp only;split<;>rfl
theorem uM {l:List ae} {x:Nat} (h0:0<x) (h:x<=l.length):∃y,dT (l.take x)=some y:=by
 obtain⟨k,rfl⟩:∃k,x=k+1:=⟨x - 1,by omega⟩;exact⟨_,xh (by omega)⟩
theorem U2:CO rC K5:=bZ (cfg:=fun y=>cz Gq (cD rC 4 (Vy y))) bC (fun _=>rfl) (fun _=>LR) (n:=600) (by
 rintro⟨m,k⟩ (hm:gL m);have hkl:=C3 hm k
 (conv=>whnf)
 refine⟨(m,k),?_⟩
 repeat ((conv=>whnf);first|refine⟨rfl,?_⟩|refine⟨trivial,?_⟩)
 refine⟨hm,?_⟩
 (conv=>whnf)
 refine⟨⟨(0:Nat),Aw _,?_⟩,?_⟩
 . repeat' (first|exact trivial|exact rfl|((conv=>whnf);first|(apply aK<;>intro)|apply And.intro))
 intro (x:Nat) hx;have hx:x<=(aR m k).length:=hx
 (conv=>whnf)
 refine aK (fun hlt=>?_) fun hge=>?_
 . have hlt':x<(aR m k).length:=cB hlt;have hn:=xh hlt';have mu:(aR m k).length - (x+1)<(aR m k).length - x:=by omega
   (conv=>whnf)
   refine ah.2 ⟨fun h0=> ?ga,fun h0=> ?gb⟩
   case' ga=>
    have h0:x=0:=by
      have h0:((x:Int)==0)=true:=h0;simpa using h0
    have hw:(dT ((aR m k).take (x+1))).getD gU=(aR m k)[x]:=by rw[hn];subst h0;rfl
   case' gb=>
    have h0:0<x:=by
      have h0:((x:Int)==0)=false:=h0;simp at h0;omega
    obtain⟨y,hy⟩:=uM h0 hx;have hgd:(dT ((aR m k).take x)).getD gU=y:=by rw[hy];rfl
    rw[hy]at hn
    (conv=>whnf)
    refine au.2 ⟨_,cO hlt',?_⟩
    (conv=>whnf)
    refine⟨((aR m k)[x].bp,((dT ((aR m k).take x)).getD gU).bp),?_⟩
    repeat ((conv=>whnf);first|refine⟨rfl,?_⟩|refine⟨trivial,?_⟩)
    (conv=>whnf)
    refine ah.2 ⟨fun h1=> ?gc,fun h1=> ?gd⟩
    case' gc=>
      have h1:kR (aR m k)[x].bp y.bp=false:=by
       have h1:(!kR (aR m k)[x].bp ((dT ((aR m k).take x)).getD gU).bp)=true:=h1;rw[hgd]at h1;simpa using h1
      have hw:(dT ((aR m k).take (x+1))).getD gU=(aR m k)[x]:=by rw[hn];simp[h1]
    case gd=>
      have h1:kR (aR m k)[x].bp y.bp=true:=by
       have h1:(!kR (aR m k)[x].bp ((dT ((aR m k).take x)).getD gU).bp)=false:=h1;rw[hgd]at h1;simpa using h1
      have hw:(dT ((aR m k).take (x+1))).getD gU=(dT ((aR m k).take x)).getD gU:=by rw[hn,hgd];simp[h1]
      (conv=>whnf)
      refine ag.2 ⟨cu x (by omega),?_⟩
      (conv=>whnf)
      refine⟨(x+1:Nat),hlt',mu,?_⟩
      repeat' (first|exact trivial|(with_reducible exact rfl)|((conv=>whnf);first|(apply aK<;>intro)|apply And.intro))
      all_goals first|exact rfl|(rw[hw];exact rfl)
   all_goals
    (conv=>whnf)
    refine au.2 ⟨_,cO hlt',?_⟩
    (conv=>whnf)
    refine ag.2 ⟨cu x (by omega),?_⟩
    (conv=>whnf)
    refine⟨(x+1:Nat),hlt',mu,?_⟩
    repeat' (first|exact trivial|(with_reducible exact rfl)|((conv=>whnf);first|(apply aK<;>intro)|apply And.intro))
    all_goals first|exact rfl|(rw[hw];exact rfl)
 . have hge':(aR m k).length<=x:=gr hge;have e:(aR m k).take x=aR m k:=Ay hge';have h2:bI 0 (Int.ofNat (aR m k).length)=(dT (aR m k)).isSome:=by
    rw[cr,A2,Ad];constructor
    . intro h;obtain⟨y,hy⟩:=uM (l:=aR m k) (x:=(aR m k).length) (by simp only[Ac]at h;omega) (Ai _);rw[Bp]at hy;rw[hy];rfl
    . intro h
      cases hk:aR m k with
      |nil=>rw[hk]at h;cases h
      |cons a l=>simp<;>omega
   repeat' (first|exact trivial|(with_reducible exact rfl)|((conv=>whnf);first|(apply aK<;>intro)|apply And.intro))
   all_goals first|exact rfl|exact h2|(rw[e];done)|(rw[e];exact rfl))
noncomputable def yy (f:FuncId):Option aN:=bif Nat.beq f rC then some K5 else Gq f
theorem CN:∀g C,yy g=some C->CO g C:=bR U2 LR
end
end Go.Proofs
namespace Go.Proofs
open Go Go.Am Go.RowKit Go.Sy Go.Gm
section
section
variable {K V:Type} [DecidableEq K]
theorem bK {L:List (K×V)} {k:K}:aE L k=none↔k∉L.map (·.1):=by
 unfold aE;rw[Fq,Ek];constructor
 . rintro h hm;obtain⟨x,hx,rfl⟩:=Au.1 hm;exact h x hx (by simp)
 . rintro h x hx he;exact h (Au.2 ⟨x,hx,(Bo he).symm⟩)
theorem mN {L:List (K×V)} {k:K} {v:V} (h:aE L k=some v):(k,v)∈L:=by
 unfold aE at h;obtain⟨x,hx,rfl⟩:=As.1 h;have h1:=List.find?_some hx;have h2:=Ff hx;have:k=x.1:=Bo h1;subst this;exact h2
theorem FU {k:K} {u v:V}:∀{L:List (K×V)},(L.map (·.1)).Nodup->(k,u)∈L->(k,v)∈L->u=v
 |[],_,h,_=>by cases h
 |y::L,hn,h1,h2=>by
  rw[AR,BW]at hn;rcases Aj.1 h1 with h1|h1<;>rcases Aj.1 h2 with h2|h2
  . rw[<-h1,B5]at h2;exact h2.2.symm
  . exact absurd (Au.2 ⟨_,h2,by rw[<-h1]⟩) hn.1
  . exact absurd (Au.2 ⟨_,h1,by rw[<-h2]⟩) hn.1
  . exact FU hn.2 h1 h2
theorem CT {L:List (K×V)} {k:K} {v:V} (hn:(L.map (·.1)).Nodup):aE L k=some v↔(k,v)∈L:=by
 refine⟨mN,fun h=>?_⟩
 cases e:aE L k with
 |none=>exact absurd (Au.2 ⟨(k,v),h,rfl⟩) (bK.1 e)
 |some u=>rw[FU hn (mN e) h]
theorem nV (k:K):aE ([]:List (K×V)) k=none:=rfl
theorem uk (x:K×V) (L:List (K×V)) (k:K):aE (x::L) k=if k=x.1 then some x.2 else aE L k:=by
 unfold aE;rw[DN];by_cases h:k=x.1<;>simp[h]
theorem RG (L M:List (K×V)) (k:K):aE (L++M) k=(aE L k).or (aE M k):=by
 unfold aE;rw[DV]
 cases List.find? (fun x:K×V=>decide (k=x.1)) L<;>simp
theorem iO (L:List (K×V)) (k k':K) (v:V):aE (cw L k v) k'=if k'=k then some v else aE L k':=by
 have key:∀L:List (K×V),aE (L.map fun x=>if k=x.1 then(k,v)else x) k'=if k'=k then(if k∈L.map (·.1)then some v else none)else aE L k':=by
   intro L;induction L with
   |nil=>simp[nV]
   | cons x L ih=>
     rw[AR,uk,uk,ih,AR];by_cases h1:k=x.1
     . by_cases h2:k'=k
       . rw[if_pos h1];simp only[h2,if_true];rw[if_pos (by rw[h1];exact An)]
       . have h3:¬k'=x.1:=fun e=>h2 (e.trans h1.symm)
         rw[if_pos h1];simp only[if_neg h2,if_neg h3]
     . by_cases h2:k'=k
       . rw[if_neg h1];have h3:¬k'=x.1:=fun e=>h1 (h2.symm.trans e)
         simp only[if_pos h2,if_neg h3,Aj,h1,false_or]
       . rw[if_neg h1];simp only[if_neg h2]
 unfold cw;split
 . rename_i hm;rw[key,if_pos hm]
 . rename_i hm;rw[RG,uk,nV];by_cases h2:k'=k
   . rw[if_pos h2,if_pos h2,h2,bK.2 hm];rfl
   . rw[if_neg h2,if_neg h2];cases aE L k'<;>rfl
theorem CS (L:List (K×V)) (k k':K):aE (dD L k) k'=if k'=k then none else aE L k':=by
 unfold dD aE;rw[List.find?_filter];by_cases h:k'=k
 . rw[if_pos h,Fq,Ek];intro x hx;simp[h]
 . rw[if_neg h];congr 2
   funext x
   by_cases e:k'=x.1
   . have:¬k=x.1:=fun e2=>h (e.trans e2.symm)
     simp[e,this]
   . simp[e]
theorem Si {L:List (K×V)} {k:K} (h:aE L k=none) (v:V):(cw L k v).length=L.length+1:=by
 unfold cw;rw[if_neg (bK.1 h)];simp
theorem Lr {L:List (K×V)} {k:K}:k∈L.map (·.1)↔(aE L k).isSome=true:=by
 rw[Ep,ne_eq,bK,Decidable.not_not]
end
abbrev DL:=List (aj×Int)
structure bn where
 kept:List (aj×(Value×ae))
 alive:List (aA×(Nat×DL))
 dead:DL
 vec:List ((Int×Int)×Int)
def pM (A:List (aA×(Nat×DL))) (nb:Nat) (k:aA) (d:aj):List (aA×(Nat×DL)):=
 match aE A k with
 |none=>cw A k (nb,[(d,1)])
 |some x=>cw A k (x.1,cw x.2 d 1)
def ot (A:List (aA×(Nat×DL))) (k:aA) (d:aj):List (aA×(Nat×DL)):=
 match aE A k with
 |none=>A
 |some x=>if dD x.2 d=[]then dD A k else cw A k (x.1,dD x.2 d)
def kv (G:bn) (d:aj):bn:={G with dead:=cw G.dead d 1,alive:=match aE G.kept d with
 |some x=>if x.2.kind=1 then ot G.alive x.2.key d else G.alive
 |none=>G.alive}
def gN (G:bn) (e:ae) (v:Value):bn:={G with vec:=cw G.vec (e.dot.dev,e.dot.inc) e.dot.seq,kept:=cw G.kept e.dot (v,e)}
def iH (G:bn) (e:ae) (nb:Nat):bn:=if e.kind=1/\aE G.dead e.dot=none then{G with alive:=pM G.alive nb e.key e.dot}else G
def kS (G:bn) (l:List aj):bn:=l.foldl kv G
def gA (A:List (aA×(Nat×DL))) (k:aA) (d:aj):Prop:=∃x,aE A k=some x/\(aE x.2 d).isSome=true
def tk (A:List (aA×(Nat×DL))):Prop:=∀k x,aE A k=some x->x.2≠[]
theorem Ua {A:List (aA×(Nat×DL))} {nb:Nat} {k k':aA} {d d':aj}:gA (pM A nb k d) k' d'↔gA A k' d'\/(k'=k/\d'=d):=by
 unfold gA pM
 cases e:aE A k with
 |none=>
  simp only[iO];by_cases h:k'=k
  . subst h;by_cases h2:d'=d
    . subst h2;simp[e,nV,uk]
    . simp[e,nV,uk,h2]
  . simp[h]
 |some x=>
  simp only[iO];by_cases h:k'=k
  . subst h;by_cases h2:d'=d
    . subst h2;simp[iO]
    . simp[e,iO,h2]
  . simp[h]
theorem ZD {K V:Type} [DecidableEq K] (L:List (K×V)) (k:K) (v:V):cw L k v≠[]:=by
 intro e;have:=iO L k k v;rw[e,nV]at this;simp at this
theorem T4 {A:List (aA×(Nat×DL))} {nb:Nat} {k:aA} {d:aj} (h:tk A):tk (pM A nb k d):=by
 intro k' x hx;unfold pM at hx;split at hx
 . rw[iO]at hx;split at hx
   . cases hx;simp
   . exact h k' x hx
 . rw[iO]at hx;split at hx
   . cases hx;exact ZD _ _ _
   . exact h k' x hx
theorem T9 {A:List (aA×(Nat×DL))} {k k':aA} {d d':aj}:gA (ot A k d) k' d'↔gA A k' d'/\ ¬(k'=k/\d'=d):=by
 unfold gA ot
 cases e:aE A k with
 |none=>
  simp only;by_cases h:k'=k
  . subst h;simp[e]
  . simp[h]
 |some x=>
  have hdel:=CS x.2 d d';simp only;split
  . rename_i hnil;rw[CS];by_cases h:k'=k
    . subst h;simp only[if_true,e];rw[hnil]at hdel;by_cases h2:d'=d
      . simp[h2]
      . rw[if_neg h2]at hdel;simp[h2,<-hdel,nV]
    . simp[h]
  . rw[iO];by_cases h:k'=k
    . subst h;simp only[if_true,e];by_cases h2:d'=d
      . subst h2;simp[hdel]
      . rw[if_neg h2]at hdel;simp[h2,hdel]
    . simp[h]
theorem Uy {A:List (aA×(Nat×DL))} {k:aA} {d:aj} (h:tk A):tk (ot A k d):=by
 intro k' x hx;unfold ot at hx;split at hx
 . exact h k' x hx
 . split at hx
   . rw[CS]at hx;split at hx
     . cases hx
     . exact h k' x hx
   . rename_i hne;rw[iO]at hx;split at hx
     . cases hx;exact hne
     . exact h k' x hx
structure mz (kept:List (aj×(Value×ae))) (dead:aj->Prop) (A:List (aA×(Nat×DL))):Prop where
 al:∀k d,gA A k d↔∃x,aE kept d=some x/\x.2.kind=1/\x.2.key=k/\ ¬dead d
 full:tk A
theorem mz.kill {G:bn} {d:aj} (h:mz G.kept (fun x=>(aE G.dead x).isSome=true) G.alive):mz (kv G d).kept (fun x=>(aE (kv G d).dead x).isSome=true) (kv G d).alive:=by
 have hdead:∀x,(aE (kv G d).dead x).isSome=true↔(aE G.dead x).isSome=true\/x=d:=fun x=>by
   show(aE (cw G.dead d 1) x).isSome=true↔_
   rw[iO];by_cases e:x=d<;>simp[e]
 refine⟨fun k d'=>?_,?_⟩
 . show gA (match aE G.kept d with|some x=>if x.2.kind=1 then ot G.alive x.2.key d else G.alive|none=>G.alive) k d'↔∃x,aE G.kept d'=some x/\_
   simp only[hdead]
   cases e:aE G.kept d with
   | none=>
     simp only[h.al];constructor
     . rintro⟨x,h1,h2,h3,h4⟩;exact⟨x,h1,h2,h3,fun hh=>hh.elim h4 fun e2=>by subst e2;rw[e]at h1;cases h1⟩
     . rintro⟨x,h1,h2,h3,h4⟩;exact⟨x,h1,h2,h3,fun hh=>h4 (.inl hh)⟩
   | some y=>
     simp only;split
     . rename_i hk;rw[T9,h.al];constructor
       . rintro⟨⟨x,h1,h2,h3,h4⟩,h5⟩;exact⟨x,h1,h2,h3,fun hh=>hh.elim h4 fun e2=>by subst e2;rw[e]at h1;cases h1;exact h5 ⟨h3.symm,rfl⟩⟩
       . rintro⟨x,h1,h2,h3,h4⟩;exact⟨⟨x,h1,h2,h3,fun hh=>h4 (.inl hh)⟩,fun hh=>h4 (.inr hh.2)⟩
     . rename_i hk;rw[h.al];constructor
       . rintro⟨x,h1,h2,h3,h4⟩;exact⟨x,h1,h2,h3,fun hh=>hh.elim h4 fun e2=>by subst e2;rw[e]at h1;cases h1;exact hk h2⟩
       . rintro⟨x,h1,h2,h3,h4⟩;exact⟨x,h1,h2,h3,fun hh=>h4 (.inl hh)⟩
 . show tk (match aE G.kept d with|some x=>if x.2.kind=1 then ot G.alive x.2.key d else G.alive|none=>G.alive)
   split
   . split
     . exact Uy h.full
     . exact h.full
   . exact h.full
theorem mz.tO {l:List aj} {G:bn} (h:mz G.kept (fun x=>(aE G.dead x).isSome=true) G.alive):mz (kS G l).kept (fun x=>(aE (kS G l).dead x).isSome=true) (kS G l).alive:=by
 induction l generalizing G with
 |nil=>exact h
 |cons d l ih=>exact ih h.kill
theorem S6 (l:List aj) (G:bn):(kS G l).kept=G.kept/\(kS G l).vec=G.vec:=by
 induction l generalizing G with
 |nil=>exact⟨rfl,rfl⟩
 |cons d l ih=>exact ih (kv G d)
theorem S5 (l:List aj) (G:bn) (x:aj):(aE (kS G l).dead x).isSome=true↔(aE G.dead x).isSome=true\/x∈l:=by
 induction l generalizing G with
 |nil=>simp[kS]
 | cons d l ih=>
  have h:=ih (kv G d);have hd:(aE (kv G d).dead x).isSome=true↔(aE G.dead x).isSome=true\/x=d:=by
   show(aE (cw G.dead d 1) x).isSome=true↔_
   rw[iO];by_cases e:x=d<;>simp[e]
  show(aE (kS (kv G d) l).dead x).isSome=true↔_
  rw[h,hd,Aj,or_assoc]
def oS (L:List ((Int×Int)×Int)) (a i:Int):Int:=(aE L (a,i)).getD 0
structure cq (G:bn) (m:aJ):Prop where
 vec:∀a i,oS G.vec a i=getM m.ctx a i
 kept:∀e:ae,e∈m.kept↔∃v,aE G.kept e.dot=some (v,e)
 keys:∀d x,aE G.kept d=some x->x.2.dot=d
 len:G.kept.length=m.kept.length
 sorted:m.kept.Pairwise fun x y=>bS x.dot y.dot=true
 ctx:∀e∈m.kept,eI m.ctx e.dot=true
 dead:∀d,(aE G.dead d).isSome=true↔d∈m.dead
 y5:mz G.kept (fun x=>(aE G.dead x).isSome=true) G.alive
theorem cq.start:cq ⟨[],[],[],[]⟩ mS:=by
 refine⟨fun _ _=>rfl,fun e=>?_,fun d x h=>(by cases h),rfl,List.Pairwise.nil,fun e h=>(by cases h),fun d=>?_,⟨fun k d=>?_,fun k x h=>(by cases h)⟩⟩
 . simp[mS,nV]
 . simp[mS,nV]
 . simp[gA,nV]
theorem eP {x:aj} {a i:Int}:fL x a i=true↔x.dev=a/\x.inc=i:=by
 unfold fL;simp
theorem Nu {a i n a' i':Int} (h:¬(a'=a/\i'=i)):∀(l:List aj) (s:List aj×Bool),(l.foldl (fI a i n) s).1.find? (fun x=>fL x a' i')=(s.1.find? fun x=>fL x a' i').or (l.find? fun x=>fL x a' i')
 |[],s=>by simp
 |x::l,s=>by
  have hn:fL ⟨a,i,n⟩ a' i'=false:=Av.2 fun e=>h (by have:=eP.1 e;exact⟨this.1.symm,this.2.symm⟩)
  rw[Bt,Nu h l,DN];have hx:fL x a i=true->fL x a' i'=false:=fun e=>Av.2 fun e2=>h (by have h1:=eP.1 e;have h2:=eP.1 e2;exact⟨h2.1.symm.trans h1.1,h2.2.symm.trans h1.2⟩)
  unfold fI
  cases e1:(!s.2&& !me x a i)<;>cases e2:fL x a i<;>simp only[Bh,AS,DV,DN,EE,hn,E6]
  . cases e3:fL x a' i'<;>simp
  . rw[hx e2]
  . cases e3:fL x a' i'<;>simp
  . rw[hx e2]
theorem Nt {a i n:Int}:∀(l:List aj) (s:List aj×Bool),(s.1.find? fun x=>fL x a i)=(if s.2=true then some ⟨a,i,n⟩else none)->((l.foldl (fI a i n) s).1.find? fun x=>fL x a i)=if(l.foldl (fI a i n) s).2=true then some ⟨a,i,n⟩else none
 |[],s,h=>h
 |x::l,s,h=>by
  rw[Bt];refine Nt l _ ?_;have hn:fL ⟨a,i,n⟩ a i=true:=eP.2 ⟨rfl,rfl⟩;unfold fI
  cases e0:s.2<;>cases e1:me x a i<;>cases e2:fL x a i<;>simp only[e0,Ak,AB,if_true]at h<;>simp only[De,BN,DM,B9,Bj,Bb,Bh,AS,e0,if_true,AB,Ak,DV,h,DN,hn,e2,EE,E7,Option.some_or,E6]
theorem Le (l:List aj) (a i n:Int):fZ l a i n=bif (l.foldl (fI a i n) ([],false)).2 then(l.foldl (fI a i n) ([],false)).1 else(l.foldl (fI a i n) ([],false)).1++[⟨a,i,n⟩]:=rfl
theorem CU (l:List aj) (a i n a' i':Int):getM (fZ l a i n) a' i'=if a'=a/\i'=i then n else getM l a' i':=by
 have hn:fL ⟨a,i,n⟩ a i=true:=eP.2 ⟨rfl,rfl⟩;split
 . rename_i h;obtain⟨rfl,rfl⟩:=h;have h1:=Nt (a:=a') (i:=i') (n:=n) l ([],false) (by simp);unfold getM;rw[Le]
   cases e:(l.foldl (fI a' i' n) ([],false)).2
   . rw[e]at h1;simp only[AS,DV,h1,Ak,AB,E7,DN,hn]
   . rw[e]at h1;simp only[Bh,h1,if_true]
 . rename_i h;have h1:=Nu (n:=n) h l ([],false);have hn2:fL ⟨a,i,n⟩ a' i'=false:=Av.2 fun e=>h (by have:=eP.1 e;exact⟨this.1.symm,this.2.symm⟩)
   unfold getM;rw[Le];simp only[EE,E7]at h1
   cases e:(l.foldl (fI a i n) ([],false)).2
   . simp only[AS,DV,h1,DN,hn2,EE,E6]
   . simp only[Bh,h1]
section
variable {α:Type} {less:α->α->Bool}
theorem WZ (l:List α) (e:α):l.take (cV less l e)=l.takeWhile fun x=>less x e:=by
 unfold cV;conv=>lhs;rw[<-EW (p:=fun x=>less x e) (l:=l)]
 rw[List.take_left'];simp
theorem Vv (l:List α) (e:α):l.drop (cV less l e)=l.dropWhile fun x=>less x e:=by
 unfold cV;conv=>lhs;arg 2;rw[<-EW (p:=fun x=>less x e) (l:=l)]
 rw[List.drop_left'];simp
theorem zL (htr:∀x y z,less x y=true->less y z=true->less x z=true) {e:α}:∀{l:List α},l.Pairwise (fun x y=>less x y=true)->(∀x∈l,less x e=true\/less e x=true)->(l.take (cV less l e)++e::l.drop (cV less l e)).Pairwise fun x y=>less x y=true:=by
 intro l hl ht;rw[WZ,Vv];induction l with
 |nil=>simp
 |cons x l ih=>
  rw[BH]at hl;rw[BO,DJ];by_cases h:less x e=true
  . simp only[h,if_true,By,BH];refine⟨fun y hy=>?_,ih hl.2 fun y hy=>ht y (Ao _ hy)⟩;rcases A9.1 hy with hy|hy
    . exact hl.1 y (List.takeWhile_subset _ hy)
    . rcases Aj.1 hy with rfl|hy
      . exact h
      . exact hl.1 y (List.dropWhile_subset _ hy)
  . simp only[h,AB,BR,BH,Ak];have h1:less e x=true:=(ht x An).resolve_left h;refine⟨fun y hy=>?_,hl⟩;rcases Aj.1 hy with rfl|hy
    . exact h1
    . exact htr _ _ _ h1 (hl.1 y hy)
theorem FR (l:List α) (e x:α):x∈l.take (cV less l e)++e::l.drop (cV less l e)↔x∈l\/x=e:=by
 conv=>rhs;lhs;rw[<-BV (cV less l e) l]
 simp only[A9,Aj];constructor
 . rintro(h|h|h)
   . exact .inl (.inl h)
   . exact .inr h
   . exact .inl (.inr h)
 . rintro((h|h)|h)
   . exact .inl h
   . exact .inr (.inr h)
   . exact .inr (.inl h)
theorem WA [DecidableEq α] (l:List α) (e x:α):x∈fU less l e↔x∈l\/x=e:=by
 unfold fU;split
 . rename_i h;refine⟨.inl,fun hh=>hh.elim id fun hx=>?_⟩;subst hx;exact BD h
 . exact FR l e x
theorem Uj [DecidableEq α] (l a:List α) (x:α):x∈l.foldl (fU less) a↔x∈a\/x∈l:=by
 induction l generalizing a with
 |nil=>simp
 |cons y l ih=>rw[Bt,ih,WA,Aj,or_assoc]
theorem oN [DecidableEq α] (l:List α) (x:α):x∈cS less l↔x∈l:=by
 unfold cS;rw[Uj];simp
end
variable [Inhabited aL]
theorem cq.none {G:bn} {m:aJ} (h:cq G m) {e:ae} (hh:eI m.ctx e.dot=false):aE G.kept e.dot=none:=by
 cases he:aE G.kept e.dot with
 |none=>rfl
 |some x=>
  have h1:=h.keys _ _ he;have h2:=(h.kept x.2).2 ⟨x.1,by rw[h1,he]⟩;have h3:=h.ctx _ h2;rw[h1,hh]at h3;cases h3
def qM (G:bn) (e:ae) (v:Value) (nb:Nat):bn:=kS (iH (gN G e v) e nb) e.over
theorem Kc (G:bn) (e:ae) (nb:Nat):(iH G e nb).kept=G.kept/\(iH G e nb).vec=G.vec/\(iH G e nb).dead=G.dead:=by
 unfold iH;split<;>exact⟨rfl,rfl,rfl⟩
theorem mz.take {G:bn} {e:ae} {v:Value} {nb:Nat} (h:mz G.kept (fun x=>(aE G.dead x).isSome=true) G.alive) (hn:aE G.kept e.dot=none):
   mz (iH (gN G e v) e nb).kept (fun x=>(aE (iH (gN G e v) e nb).dead x).isSome=true) (iH (gN G e v) e nb).alive:=by
 obtain⟨k1,k2,k3⟩:=Kc (gN G e v) e nb;rw[k1,k3];have hk:∀d,aE (gN G e v).kept d=if d=e.dot then some (v,e)else aE G.kept d:=fun d=>iO _ _ _ _
 have hno:∀k,¬gA G.alive k e.dot:=fun k hh=>by
   obtain⟨x,hx,_⟩:=(h.al k e.dot).1 hh;rw[hn]at hx;cases hx
 show mz _ (fun x=>(aE G.dead x).isSome=true) _
 unfold iH;split
 . rename_i hc;have hd:¬(aE G.dead e.dot).isSome=true:=by
     have:=hc.2;rw[show(gN G e v).dead=G.dead from rfl]at this;rw[this];simp
   refine⟨fun k d=>?_,T4 h.full⟩;show gA (pM G.alive nb e.key e.dot) k d↔_
   rw[Ua,hk];by_cases hd2:d=e.dot
   . subst hd2;simp only[if_true];constructor
     . rintro(hh|⟨hh,_⟩)
       . exact absurd hh (hno k)
       . exact⟨_,rfl,hc.1,hh.symm,hd⟩
     . rintro⟨x,hx,_,h3,_⟩
       cases hx;exact .inr ⟨h3.symm,trivial⟩
   . simp only[if_neg hd2,hd2,and_false,DB];exact h.al k d
 . rename_i hc;refine⟨fun k d=>?_,h.full⟩;show gA G.alive k d↔_
   rw[hk];by_cases hd2:d=e.dot
   . subst hd2;simp only[if_true];refine⟨fun hh=>absurd hh (hno k),?_⟩;rintro⟨x,hx,h2,_,h4⟩
     cases hx;refine absurd ⟨h2,?_⟩ hc;show aE G.dead e.dot=none
     cases e5:aE G.dead e.dot with
     |none=>rfl
     |some z=>rw[e5]at h4;simp at h4
   . simp only[if_neg hd2];exact h.al k d
theorem cq.apply {G:bn} {m:aJ} {e:ae} (h:cq G m) (v:Value) (nb:Nat) (hr:gm e=true) (hh:eI m.ctx e.dot=false) (hs:getM m.ctx e.dot.dev e.dot.inc+1=e.dot.seq) (hk:¬2048<=m.kept.length):
   cq (qM G e v nb) (ey m e).1/\(ey m e).2=(true,0):=by
 have hA:ey m e=(⟨fZ m.ctx e.dot.dev e.dot.inc e.dot.seq,fw m.kept e,cS bS (m.dead++e.over)⟩,true,0):=by
   unfold ey;rw[if_neg (by simp[hr]),if_neg (by simp[hh]),if_neg (by simp[hs]),if_neg hk]
 rw[hA];refine⟨?_,rfl⟩;have hn:=h.none hh;obtain⟨k1,k2,k3⟩:=Kc (gN G e v) e nb;obtain⟨q1,q2⟩:=S6 e.over (iH (gN G e v) e nb);have hkept:(qM G e v nb).kept=cw G.kept e.dot (v,e):=q1.trans k1;have hvec:(qM G e v nb).vec=cw G.vec (e.dot.dev,e.dot.inc) e.dot.seq:=q2.trans k2;have hput:∀x,x∈fw m.kept e↔x∈m.kept\/x=e:=fun x=>FR m.kept e x
 have hdot:∀x∈m.kept,x.dot≠e.dot:=fun x hx he=>by
   have:=h.ctx x hx;rw[he,hh]at this;cases this
 refine⟨fun a i=>?_,fun x=>?_,fun d x hx=>?_,?_,?_,fun x hx=>?_,fun d=>?_,?_⟩
 . show oS (qM G e v nb).vec a i=getM (fZ m.ctx e.dot.dev e.dot.inc e.dot.seq) a i
   rw[hvec,CU];unfold oS;rw[iO];by_cases hc:a=e.dot.dev/\i=e.dot.inc
   . rw[if_pos hc,if_pos (by rw[hc.1,hc.2])];rfl
   . rw[if_neg hc,if_neg (by intro he;rw[B5]at he;exact hc he)];exact h.vec a i
 . show x∈fw m.kept e↔_
   rw[hput,hkept];simp only[iO];constructor
   . rintro(hx|rfl)
     . rw[if_neg (hdot x hx)];exact(h.kept x).1 hx
     . exact⟨v,by simp⟩
   . rintro⟨u,hu⟩;split at hu
     . cases hu;exact .inr rfl
     . exact .inl ((h.kept x).2 ⟨u,hu⟩)
 . rw[hkept,iO]at hx;split at hx
   . rename_i he;cases hx;exact he.symm
   . exact h.keys d x hx
 . show(qM G e v nb).kept.length=(fw m.kept e).length
   rw[hkept,Si hn,LB,h.len]
 . show(fw m.kept e).Pairwise _
   refine zL (less:=o8) (fun x y z=>tX) h.sorted fun x hx=>?_
   rcases vX x.dot e.dot with h1|h1|h1
   . exact .inl h1
   . exact absurd h1 (hdot x hx)
   . exact .inr h1
 . have hx:x∈fw m.kept e:=hx;show eI (fZ m.ctx e.dot.dev e.dot.inc e.dot.seq) x.dot=true
   unfold eI;rw[CU];rcases(hput x).1 hx with hx|rfl
   . have h1:=h.ctx x hx;unfold eI at h1;rw[Aa]at h1⊢;refine⟨h1.1,?_⟩;have h2:=h1.2;rw[fc,Ad]at h2⊢;split
     . rename_i hc;rw[hc.1,hc.2]at h2;omega
     . exact h2
   . rw[wT hr,if_pos ⟨rfl,rfl⟩,fc];simp
 . show(aE (kS (iH (gN G e v) e nb) e.over).dead d).isSome=true↔d∈cS bS (m.dead++e.over)
   rw[S5,oN,A9,k3];show(aE G.dead d).isSome=true\/_↔_
   rw[h.dead]
 . exact(h.y5.take hn).tO
end
end Go.Proofs
