/- Part 8: an evaluator, proved sound, and its use at this seat; no condition. -/
import Derived.WalkKit
import Derived.Deep.RegionWith
import Derived.Test.YtmfohfbdddlilaaGreatP3
import Derived.Test.YtmfohfbdddlilaaGreatP4
import Derived.Test.YtmfohfbdddlilaaGreatP6
import Derived.Test.YtmfohfbdddlilaaGreatP7
set_option linter.unusedSimpArgs false
set_option linter.unusedVariables false
set_option linter.unusedSectionVars false
set_option linter.deprecated false
set_option maxRecDepth 100000
set_option maxHeartbeats 4000000
namespace Go.Proofs
open Go Go.Am Go.RowKit Go.Sy
section
variable [Inhabited aL]
def oB (x y:ae):Bool:=bI x.dot y.dot
def mf (l:List ae) (e:ae):Nat:=cX oB l e
def gk (l:List ae) (e:ae):List ae:=l.take (mf l e)++e::l.drop (mf l e)
def M8:aM:={Y:=List ae×ae,pre:=fun y=>y.1.length<=50000,args:=fun y=>[cL y.1, .agg y.2.enc],res:=fun y=>cL (gk y.1 y.2)}
def OY (y:List ae×ae):aH:={α:=Nat,ok:=fun k=>k<=mf y.1 y.2,μ:=fun k=>y.1.length - k,aW:=[3],aN:=fun k=>[(0,cL y.1),(5,i64 k)],bn:=fun _=>[]}
def eo (m:aK) (e:ae):aK×Bool×Int:=
 if gB e=false then(m,false,1)else if eX m.ctx e.dot=true then(m,false,0)else if getM m.ctx e.dot.dev e.dot.inc+1≠e.dot.seq then(m,false,6)else if 2048<=m.kept.length then(m,false,9)
 else(⟨gC m.ctx e.dot.dev e.dot.inc e.dot.seq,gk m.kept e,cz bI (m.dead++e.over)⟩,true,0)
structure fN (m:aK):Prop where
 ctx:m.ctx.length<=100000
 seq:∀x∈m.ctx,0<=x.seq/\x.seq<=4294967296
 kept:m.kept.length<=50000
 dead:m.dead.length<=100000
theorem IL {l:List ar} (h:∀x∈l,0<=x.seq/\x.seq<=4294967296) (a i:Int):0<=getM l a i/\getM l a i<=4294967296:=by
 unfold getM
 cases e:l.find? (fun x=>fE x a i)with
 |none=>simp
 |some x=>exact h x (Eh e)
def LQ:aM:={Y:=aK×ae,pre:=fun y=>fN y.1/\kY y.2/\y.2.over.length<=100000,args:=fun y=>[.agg y.1.enc, .agg y.2.enc],res:=fun y=> .bJ [.agg (eo y.1 y.2).1.enc, .bool (eo y.1 y.2).2.1,i64 (eo y.1 y.2).2.2]}
theorem Zn:CO Gh M8:=bO (cfg:=fun y=>cg F8 (cr Gh 2 (OY y))) bA (fun _=>rfl) (fun _=>KO) (n:=600) (by
 rintro⟨l,e⟩ (hl:l.length<=50000)
 (conv=>whnf)
 refine⟨⟨(0:Nat),Au _,?_⟩,?_⟩
 . repeat' (first|exact trivial|exact rfl|((conv=>whnf);first|(apply aJ<;>intro)|apply And.intro))
 intro (k:Nat) hk;have hk:k<=cX oB l e:=hk;have hkp:=rY (less:=oB) l e;have hkl:k<=l.length:=by omega
 have ap:∀n:Nat,n<=60000->(Nat.ble (n*176) 16777216&&Nat.ble n 16777216)=true:=fun n h=>by
   rw[Ac,AA,AA];omega
 (conv=>whnf)
 refine ag.2 ⟨fun hlt=> ?ga,fun hge=> ?gb⟩
 case' ga=>
   have hlt':k<l.length:=cq hlt
   (conv=>whnf)
   refine au.2 ⟨_,cE hlt',?_⟩
   (conv=>whnf)
   refine⟨(l[k].dot,e.dot),?_⟩
   repeat ((conv=>whnf);first|refine⟨rfl,?_⟩|refine⟨trivial,?_⟩)
   (conv=>whnf)
   refine ag.2 ⟨fun h=> ?gc,fun h=> ?gd⟩
   case gc=>
     have h:oB l[k] e=true:=h
     (conv=>whnf)
     refine af.2 ⟨ch k (by omega),?_⟩
     (conv=>whnf)
     refine⟨(k+1:Nat),zS hk hlt' h,by show l.length - (k+1)<l.length - k;omega,?_⟩
     repeat' (first|exact trivial|exact rfl|((conv=>whnf);first|(apply aJ<;>intro)|apply And.intro))
   case' gd=>
     have h:oB l[k] e=false:=h;have hkk:k=cX oB l e:=zT hk hlt' h
 case' gb=>
   have hge':l.length<=k:=gf hge;have hkk:k=cX oB l e:=by omega
 all_goals
   repeat (first|((conv=>whnf);refine⟨fun _=>rfl,?_⟩)|((conv=>whnf);refine⟨fun _=>⟨rfl,rfl⟩,?_⟩)|((conv=>whnf);refine⟨e,rfl,?_⟩)|((conv=>whnf);refine⟨(_:List ae),rfl,?_⟩)|((conv=>whnf);refine af.2 ⟨by(show Nat.ble k l.length=true;rw[AA];exact hkl),?_⟩)|((conv=>whnf);refine af.2 ⟨ap _ (by simp;omega),?_⟩))
   (conv=>whnf)
   refine⟨?_,?_⟩
   . show SV.aj ae _ ae.enc=SV.aj ae (gk l e) ae.enc
     unfold gk mf;rw[<-hkk];simp
   . repeat' (first|exact trivial|exact rfl|((conv=>whnf);first|(apply aJ<;>intro)|apply And.intro)))
noncomputable def F9 (f:FuncId):Option aM:=bif Nat.beq f Gh then some M8 else F8 f
theorem Kh:∀g C,F9 g=some C->CO g C:=bG Zn KO
theorem Wn:CO Hx LQ:=bO (cfg:=fun y=>cg F9 (cS y)) bA (fun _=>rfl) (fun _=>Kh) (n:=600) (by
 rintro⟨⟨c,k,d⟩,e⟩ ⟨⟨(hc:c.length<=100000),(hs:∀x∈c,0<=x.seq/\x.seq<=4294967296),(hk:k.length<=50000),(hd:d.length<=100000)⟩,(hse:kY e),(ho:e.over.length<=100000)⟩;have hr:=IL hs e.dot.dev e.dot.inc
 (conv=>whnf)
 refine⟨e,?_⟩
 repeat ((conv=>whnf);first|refine⟨rfl,?_⟩|refine⟨trivial,?_⟩)
 refine⟨hse,?_⟩
 (conv=>whnf)
 refine aJ (fun h1=>?_) fun h1=>?_
 . have h1:gB e=false:=by simpa using h1
   have hA:eo ⟨c,k,d⟩ e=(⟨c,k,d⟩,false,1):=by unfold eo;rw[An h1]
   repeat' (first|exact trivial|(with_reducible exact rfl)|((conv=>whnf);first|(apply aJ<;>intro)|apply And.intro))
   all_goals ((conv=>whnf);rw[hA])
 have h1:gB e=true:=by simpa using h1
 (conv=>whnf)
 refine⟨(c,e.dot),?_⟩
 repeat ((conv=>whnf);first|refine⟨rfl,?_⟩|refine⟨trivial,?_⟩)
 refine⟨hc,?_⟩
 (conv=>whnf)
 refine aJ (fun h2=>?_) fun h2=>?_
 . have h2:eX c e.dot=true:=h2;have hA:eo ⟨c,k,d⟩ e=(⟨c,k,d⟩,false,0):=by unfold eo;rw[Aj (by simp[h1]),An h2]
   repeat' (first|exact trivial|(with_reducible exact rfl)|((conv=>whnf);first|(apply aJ<;>intro)|apply And.intro))
   all_goals ((conv=>whnf);rw[hA])
 have h2:eX c e.dot=false:=h2
 (conv=>whnf)
 refine⟨(c,e.dot.dev,e.dot.inc),?_⟩
 repeat ((conv=>whnf);first|refine⟨rfl,?_⟩|refine⟨trivial,?_⟩)
 refine⟨hc,?_⟩
 (conv=>whnf)
 refine af.2 ⟨by show bp .i64 (getM c e.dot.dev e.dot.inc+1)=true;rw[gU];omega,?_⟩
 (conv=>whnf)
 refine aJ (fun h3=>?_) fun h3=>?_
 . have h3:getM c e.dot.dev e.dot.inc+1≠e.dot.seq:=by
    have h3:(!((getM c e.dot.dev e.dot.inc+1)==e.dot.seq))=true:=h3;simpa using h3
   have hA:eo ⟨c,k,d⟩ e=(⟨c,k,d⟩,false,6):=by unfold eo;rw[Aj (by simp[h1]),Aj (by simp[h2]),An h3]
   repeat' (first|exact trivial|(with_reducible exact rfl)|((conv=>whnf);first|(apply aJ<;>intro)|apply And.intro))
   all_goals ((conv=>whnf);rw[hA])
 have h3:¬getM c e.dot.dev e.dot.inc+1≠e.dot.seq:=by
   have h3:(!((getM c e.dot.dev e.dot.inc+1)==e.dot.seq))=false:=h3;simpa using h3
 (conv=>whnf)
 refine aJ (fun h4=>?_) fun h4=>?_
 . have h4:2048<=k.length:=by
    have h4:bU 2048 (Int.ofNat k.length)=true:=h4;rw[fi,Ab,Aa]at h4;omega
   have hA:eo ⟨c,k,d⟩ e=(⟨c,k,d⟩,false,9):=by unfold eo;rw[Aj (by simp[h1]),Aj (by simp[h2]),Aj h3,An h4]
   repeat' (first|exact trivial|(with_reducible exact rfl)|((conv=>whnf);first|(apply aJ<;>intro)|apply And.intro))
   all_goals ((conv=>whnf);rw[hA])
 have h4:¬2048<=k.length:=by
   have h4:bU 2048 (Int.ofNat k.length)=false:=h4;rw[fi,Ah,Aa]at h4;omega
 have hA:eo ⟨c,k,d⟩ e=(⟨gC c e.dot.dev e.dot.inc e.dot.seq,gk k e,cz bI (d++e.over)⟩,true,0):=by unfold eo;rw[Aj (by simp[h1]),Aj (by simp[h2]),Aj h3,Aj h4]
 have ap:∀n:Nat,n<=300000->(Nat.ble (n*24) 16777216&&Nat.ble n 16777216)=true:=fun n h=>by
   rw[Ac,AA,AA];omega
 (conv=>whnf)
 refine⟨(c,e.dot.dev,e.dot.inc,e.dot.seq),?_⟩
 repeat ((conv=>whnf);first|refine⟨rfl,?_⟩|refine⟨trivial,?_⟩)
 refine⟨hc,?_⟩
 (conv=>whnf)
 refine⟨(k,e),?_⟩
 repeat ((conv=>whnf);first|refine⟨rfl,?_⟩|refine⟨trivial,?_⟩)
 refine⟨hk,?_⟩
 (conv=>whnf)
 refine⟨fun _=>⟨rfl,rfl⟩,?_⟩
 (conv=>whnf)
 refine⟨d,rfl,?_⟩
 (conv=>whnf)
 refine af.2 ⟨ap _ (by simp;omega),?_⟩
 (conv=>whnf)
 refine⟨fun _=>⟨rfl,rfl⟩,?_⟩
 (conv=>whnf)
 refine⟨e.over,rfl,?_⟩
 (conv=>whnf)
 refine af.2 ⟨ap _ (by simp;omega),?_⟩
 (conv=>whnf)
 refine⟨[]++d++e.over,?_⟩
 repeat ((conv=>whnf);first|refine⟨rfl,?_⟩|refine⟨trivial,?_⟩)
 refine⟨by show(([]:List ar)++d++e.over).length<=300000;simp;omega,?_⟩
 repeat' (first|exact trivial|(with_reducible exact rfl)|((conv=>whnf);first|(apply aJ<;>intro)|apply And.intro))
 all_goals ((conv=>whnf);rw[hA])
 all_goals (rw[BS];rfl))
end
section
variable [Inhabited aL]
noncomputable def x5 (f:FuncId):Option aM:=bif Nat.beq f Hx then some LQ else F9 f
theorem Ck:∀g C,x5 g=some C->CO g C:=bG Wn Kh
def mr:aK:=⟨[],[],[]⟩
def foldM (l:List ae):aK:=l.foldl (fun m e=>(eo m e).1) mr
def sm (l:List ae):Prop:=l.length<=100/\ ∀e∈l,iy e=true
theorem vD {e:ae} (h:iy e=true):kY e/\e.over.length<=100:=by
 simp only[iy,Ac,fi,Ab,Aa]at h;exact⟨⟨by omega,by omega⟩,by omega⟩
theorem Mo (l:List ar) (a i n:Int):gC l a i n=bif (l.foldl (fy a i n) ([],false)).2 then(l.foldl (fy a i n) ([],false)).1 else(l.foldl (fy a i n) ([],false)).1++[⟨a,i,n⟩]:=rfl
theorem Rq {a i n:Int} {s:List ar×Bool} {x:ar} {P:ar->Prop} (hs:∀z∈s.1,P z) (hx:P x) (hn:P ⟨a,i,n⟩):∀z∈(fy a i n s x).1,P z:=by
 intro z hz;unfold fy at hz
 cases h1:(!s.2&& !lS x a i)<;>cases h2:fE x a i<;>simp only[h1,h2,BT,Be,A7,BE]at hz
 . rcases hz with hz|rfl
   . exact hs z hz
   . exact hx
 . exact hs z hz
 . rcases hz with(hz|rfl)|rfl
   . exact hs z hz
   . exact hn
   . exact hx
 . rcases hz with hz|rfl
   . exact hs z hz
   . exact hn
theorem Vy {l:List ar} {a i n:Int} {P:ar->Prop} (hl:∀z∈l,P z) (hn:P ⟨a,i,n⟩):∀z∈gC l a i n,P z:=by
 have key:∀(l:List ar) (s:List ar×Bool),(∀z∈l,P z)->(∀z∈s.1,P z)->∀z∈(l.foldl (fy a i n) s).1,P z:=by
   intro l;induction l with
   |nil=>intro s _ hs;exact hs
   |cons x l ih=>intro s hl hs;exact ih _ (fun z hz=>hl z (AB _ hz)) (Rq hs (hl x Ar) hn)
 intro z hz;rw[Mo]at hz;have h1:=key l ([],false) hl (fun z hz=>by cases hz)
 cases h:(l.foldl (fy a i n) ([],false)).2
 . rw[h]at hz;simp only[Be,A7,BE]at hz;rcases hz with hz|rfl
   . exact h1 z hz
   . exact hn
 . rw[h]at hz;exact h1 z hz
theorem V7 (l:List ar) (a i n:Int):(gC l a i n).length<=l.length+1:=by
 have key:∀(l:List ar) (s:List ar×Bool),(l.foldl (fy a i n) s).1.length+(bif (l.foldl (fy a i n) s).2 then 0 else 1)<=s.1.length+(bif s.2 then 0 else 1)+l.length:=by
  intro l;induction l with
  |nil=>intro s;simp
  | cons x l ih=>
   intro s;have h1:=ih (fy a i n s x);have h2:(fy a i n s x).1.length+(bif (fy a i n s x).2 then 0 else 1)<=s.1.length+(bif s.2 then 0 else 1)+1:=by
    unfold fy
    cases hs:s.2<;>cases lS x a i<;>cases fE x a i<;>simp[hs]<;>omega
   simp only[Br,Az];omega
 have h1:=key l ([],false);rw[Mo]
 cases h:(l.foldl (fy a i n) ([],false)).2<;>rw[h]at h1<;>simp at h1⊢ <;>omega
structure fp (m:aK) (k:Nat):Prop where
 ctx:m.ctx.length<=k
 seq:∀x∈m.ctx,fB x=true
 kept:m.kept.length<=k
 dead:m.dead.length<=100*k
theorem Tv {x:ar} (h:fB x=true):0<=x.seq/\x.seq<=4294967296:=by
 simp only[fB,Ac,fi,Ab]at h;omega
theorem fp.ok {m:aK} {k:Nat} (h:fp m k) (hk:k<=1000):fN m:=⟨by have:=h.ctx;omega,fun x hx=>Tv (h.seq x hx),by have:=h.kept;omega,by have:=h.dead;omega⟩
theorem wv {e:ae} (h:gB e=true):fB e.dot=true:=by
 simp only[gB,Ac]at h;exact h.1.1.1.1
theorem K5 (l:List ae) (e:ae):(gk l e).length=l.length+1:=by
 unfold gk;have:=rY (less:=oB) l e;simp[mf];omega
theorem RL {m:aK} {e:ae} {k:Nat} (h:fp m k) (he:e.over.length<=100):fp (eo m e).1 (k+1):=by
 have same:fp m (k+1):=⟨by have:=h.ctx;omega,h.seq,by have:=h.kept;omega,by have:=h.dead;omega⟩;unfold eo;split
 . exact same
 . rename_i h1;have h1:gB e=true:=by simpa using h1
   split
   . exact same
   . split
     . exact same
     . split
       . exact same
       . refine⟨?_,Vy h.seq (wv h1),?_,?_⟩
         . have:=V7 m.ctx e.dot.dev e.dot.inc e.dot.seq;have:=h.ctx;show(gC m.ctx e.dot.dev e.dot.inc e.dot.seq).length<=_
           omega
         . show(gk m.kept e).length<=_
           rw[K5];have:=h.kept;omega
         . show(cz bI (m.dead++e.over)).length<=_
           have h2:=rH (less:=bI) (m.dead++e.over) [];unfold cz;have:=h.dead;simp only[AG,AU,Ay]at h2;omega
theorem rz {l:List ae} (hl:∀e∈l,iy e=true):∀x,x<=l.length->fp (foldM (l.take x)) x
 |0,_=>⟨by simp[foldM,mr],by simp[foldM,mr],by simp[foldM,mr],by simp[foldM,mr]⟩
 |x+1,h=>by
  have hx:x<l.length:=h;have h1:=rz hl x (by omega);have h2:foldM (l.take (x+1))=(eo (foldM (l.take x)) l[x]).1:=kW _ _ hx;rw[h2];exact RL h1 (vD (hl _ (AI hx))).2
def Ms:aM:={Y:=List ae,pre:=sm,args:=fun y=>[cL y],res:=fun y=> .agg (foldM y).enc}
def YG (y:List ae):aH:={α:=Nat,ok:=fun x=>x<=y.length,μ:=fun x=>y.length - x,aW:=[2,3],aN:=fun x=>[(0,cL y),(4,i64 x)],bn:=fun x=>[(1, .cells (foldM (y.take x)).enc PU)]}
theorem L7:CO GF Ms:=bO (cfg:=fun y=>cg x5 (cr GF 3 (YG y))) bA (fun _=>rfl) (fun _=>Ck) (n:=600) (by
 rintro(l:List ae) ⟨(hl:l.length<=100),(hlt:∀e∈l,iy e=true)⟩
 (conv=>whnf)
 refine⟨⟨(0:Nat),Au _,?_⟩,?_⟩
 . repeat' (first|exact trivial|(with_reducible exact rfl)|((conv=>whnf);first|(apply aJ<;>intro)|apply And.intro))
   all_goals exact rfl
 intro (x:Nat) hx;have hx:x<=l.length:=hx
 (conv=>whnf)
 refine aJ (fun hlt1=>?_) fun hge=>?_
 . have hlt':x<l.length:=cq hlt1;have hf:foldM (l.take (x+1))=(eo (foldM (l.take x)) l[x]).1:=kW _ _ hlt';have hb:=rz hlt x hx;have hsm:=vD (hlt _ (AI hlt'))
   (conv=>whnf)
   refine au.2 ⟨_,cE hlt',?_⟩
   (conv=>whnf)
   refine⟨(foldM (l.take x),l[x]),?_⟩
   repeat ((conv=>whnf);first|refine⟨rfl,?_⟩|refine⟨trivial,?_⟩)
   refine⟨⟨hb.ok (by omega),hsm.1,by have:=hsm.2;show l[x].over.length<=100000;omega⟩,?_⟩
   (conv=>whnf)
   refine af.2 ⟨ch x (by omega),?_⟩
   (conv=>whnf)
   refine⟨(x+1:Nat),hlt',by show l.length - (x+1)<l.length - x;omega,?_⟩
   repeat' (first|exact trivial|(with_reducible exact rfl)|((conv=>whnf);first|(apply aJ<;>intro)|apply And.intro))
   all_goals first|exact rfl|(rw[hf];exact rfl)
 . have hge':l.length<=x:=gf hge;have e:l.take x=l:=As hge'
   repeat' (first|exact trivial|(with_reducible exact rfl)|((conv=>whnf);first|(apply aJ<;>intro)|apply And.intro))
   all_goals first|exact rfl|(rw[e];done)|(rw[e];exact rfl))
end
section
variable [Inhabited aL]
def lT (m:aK) (e:ae):Bool:=(e.kind==1)&& !decide (e.dot∈m.dead)
def cF (m:aK):List ae:=m.kept.filter (lT m)
def aU (m:aK) (k:aA):List ae:=(cF m).filter fun e=>decide (e.key=k)
def gQ:ae:=⟨⟨0,0,0⟩,⟨0,0,0⟩,0,ql,⟨[],false,false,false,false,0,0,0⟩,[]⟩
def dM (l:List ae):Option ae:=l.foldl (fun b e=>match b with|none=>some e|some y=>if kG e.bu y.bu then some y else some e) none
def dV (m:aK) (k:aA):ae×Bool:=((dM (aU m k)).getD gQ,(dM (aU m k)).isSome)
def kZ (x y:ae):Bool:=fk x.key y.key
def jo (out:List ae) (w:ae):List ae:=out.take (cX kZ out w)++w::out.drop (cX kZ out w)
def cT (m:aK) (l:List ae):List ae:=l.foldl (fun out x=>if(dV m x.key).1.dot=x.dot then jo out (dV m x.key).1 else out) []
def gA (m:aK):List ae:=cT m (cF m)
def cG (m:aK):List aa:=(gA m).map ae.item
def kv (m:aK) (k:aA):List ar:=(aU m k).map (·.dot)
def GX (l:List ae):SO:= .arr ae l ae.enc yA
def LP:aM:={Y:=aK,pre:=fN,args:=fun y=>[.agg y.enc],res:=fun y=>cL (cF y)}
def Wv (y:aK):aH:={α:=Nat,ok:=fun i=>i<=y.kept.length,μ:=fun i=>y.kept.length - i,aW:=[1],aN:=fun i=>[(3, .own 1),(4,i64 i)],bn:=fun i=>[(1,GX ((y.kept.take i).filter (lT y)))]}
def M6:aM:={Y:=aK×aA,pre:=fun y=>fN y.1,args:=fun y=>[.agg y.1.enc, .agg y.2.enc],res:=fun y=>cL (aU y.1 y.2)}
def OX (y:aK×aA):aH:={α:=Nat,ok:=fun i=>i<=(cF y.1).length,μ:=fun i=>(cF y.1).length - i,aW:=[3],aN:=fun i=>[(5, .own 2),(6,cL (cF y.1)),(7,i64 i)],bn:=fun i=>[(2,GX (((cF y.1).take i).filter fun e=>decide (e.key=y.2)))]}
def Ku:aM:={Y:=aK×aA,pre:=fun y=>fN y.1,args:=fun y=>[.agg y.1.enc, .agg y.2.enc],res:=fun y=> .bJ [.agg (dV y.1 y.2).1.enc, .bool (dV y.1 y.2).2]}
def Ur (y:aK×aA):aH:=let l:=aU y.1 y.2;{α:=Nat,ok:=fun i=>i<=l.length,μ:=fun i=>l.length - i,aW:=[4,7],aN:=fun i=>[(6,cL l),(8,i64 i)],bn:=fun i=>[(3, .cells ((dM (l.take i)).getD gQ).enc yA)]}
def Jz:aM:={Y:=aK,pre:=fN,args:=fun y=>[.agg y.enc],res:=fun y=>cL (gA y)}
def vY (y:aK):aH:=let l:=cF y;{α:=Nat,ok:=fun i=>i<=l.length,μ:=fun i=>l.length - i,aW:=[1],aN:=fun i=>[(3,cL (cT y (l.take i))),(4,cL l),(5,i64 i)],bn:=fun _=>[],ff:=[3]}
def Sc (y:aK):aH:=let l:=cF y;{α:=Nat×Nat,ok:=fun x=>∃h:x.1<l.length,x.2<=cX kZ (cT y (l.take x.1)) (dV y l[x.1].key).1,μ:=fun x=>(cT y (l.take x.1)).length - x.2,aW:=[1,6],aN:=fun x=>[(3,cL (cT y (l.take x.1))),(4,cL l),(5,i64 x.1),(8,i64 x.2)],bn:=fun _=>[],link:=some fun a b=>b.1=a.1}
def LS:aM:={Y:=aK,pre:=fN,args:=fun y=>[.agg y.enc],res:=fun y=>items (cG y)}
def Ww (y:aK):aH:=let l:=gA y;{α:=Nat,ok:=fun i=>i<=l.length,μ:=fun i=>l.length - i,aW:=[],aN:=fun i=>[(3, .own 1),(4,cL l),(5,i64 i)],bn:=fun i=>[(1,mw ((l.take i).map ae.item))]}
def MV:aM:={Y:=aK×aA,pre:=fun y=>fN y.1,args:=fun y=>[.agg y.1.enc, .agg y.2.enc],res:=fun y=>cw (kv y.1 y.2)}
def YD (y:aK×aA):aH:=let l:=aU y.1 y.2;{α:=Nat,ok:=fun i=>i<=l.length,μ:=fun i=>l.length - i,aW:=[],aN:=fun i=>[(5, .own 2),(6,cL l),(7,i64 i)],bn:=fun i=>[(2, .arr ar ((l.take i).map (·.dot)) ar.enc Ty.kN)]}
theorem uA {α:Type} {p:α->Bool} {l:List α} {x:Nat} (h:x<l.length):(l.take (x+1)).filter p=(l.take x).filter p++if p l[x]then[l[x]]else[]:=by
 rw[Aw h,DJ];by_cases hp:p l[x]=true<;>simp[hp]
theorem C9 {α:Type} {p:α->Bool} {l:List α} {x:Nat}:((l.take x).filter p).length<=x:=Aq (AF _ _) (by simp;omega)
theorem xM {α:Type} {p:α->Bool} {l:List α} {x:Nat} (h:¬(x:Int)<Int.ofNat l.length):(l.take x).filter p=l.filter p:=by
 rw[As (by simp only[Aa]at h;omega)]
theorem wS {α β:Type} (f:α->β) {l:List α} {x:Nat} (h:x<l.length):(l.take (x+1)).map f=(l.take x).map f++[f l[x]]:=by
 rw[Aw h,AL];rfl
theorem vZ {m:aK} (h:fN m):(cF m).length<=50000:=Aq (AF _ _) h.kept
theorem xa {m:aK} (h:fN m) (k:aA):(aU m k).length<=50000:=Aq (AF _ _) (vZ h)
theorem U2 (out:List ae) (w:ae):(jo out w).length=out.length+1:=by
 unfold jo;have:=rY (less:=kZ) out w;simp;omega
theorem wZ (m:aK):∀(l out:List ae),(l.foldl (fun out x=>if(dV m x.key).1.dot=x.dot then jo out (dV m x.key).1 else out) out).length<=out.length+l.length
 |[],out=>by simp
 | x::l,out=>by
  have h1:=wZ m l (if(dV m x.key).1.dot=x.dot then jo out (dV m x.key).1 else out);have h2:(if(dV m x.key).1.dot=x.dot then jo out (dV m x.key).1 else out).length<=out.length+1:=by
   split
   . rw[U2];omega
   . omega
  simp only[Br,Az];omega
theorem zn {m:aK} (h:fN m):(gA m).length<=50000:=by
 have h1:=wZ m (cF m) [];have h2:=vZ h;unfold gA cT;simp only[AG,Ay]at h1;omega
theorem th (n:Nat) (h:n<=60000):(Nat.ble (n*176) 16777216&&Nat.ble n 16777216)=true:=by
 rw[Ac,AA,AA];omega
theorem vr (n:Nat) (h:n<=60000):(Nat.ble (n*96) 16777216&&Nat.ble n 16777216)=true:=by
 rw[Ac,AA,AA];omega
theorem rr (n:Nat) (h:n<=600000):(Nat.ble (n*24) 16777216&&Nat.ble n 16777216)=true:=by
 rw[Ac,AA,AA];omega
theorem Wm:CO rl LP:=bO (cfg:=fun y=>cg x5 (cr rl 3 (Wv y))) bA (fun _=>rfl) (fun _=>Ck) (n:=600) (by
 rintro⟨c,k,d⟩ ⟨(h1:c.length<=100000),h2,(h3:k.length<=50000),(h4:d.length<=100000)⟩
 (conv=>whnf)
 refine⟨⟨(0:Nat),Au _,?_⟩,?_⟩
 . repeat' (first|exact trivial|exact rfl|((conv=>whnf);first|(apply aJ<;>intro)|apply And.intro))
 intro (x:Nat) hx;have hx:x<=k.length:=hx;have hlen:=AF (lT ⟨c,k,d⟩) (k.take x);rw[A5]at hlen
 (conv=>whnf)
 refine aJ (fun hlt=>?_) fun hge=>?_
 . have hlt':x<k.length:=cq hlt;have hf:=uA (p:=lT ⟨c,k,d⟩) hlt';have mu:k.length - (x+1)<k.length - x:=by omega
   have hz:((k.take x).filter (lT ⟨c,k,d⟩)).length+1<=60000:=by omega
   (conv=>whnf)
   refine au.2 ⟨_,cE hlt',?_⟩
   (conv=>whnf)
   refine ag.2 ⟨fun h5=> ?ga,fun h5=> ?gb⟩
   case' ga=>
    have h5:(k[x].kind==1)=true:=h5
    (conv=>whnf)
    refine au.2 ⟨_,cE hlt',?_⟩
    (conv=>whnf)
    refine⟨(d,k[x].dot),?_⟩
    repeat ((conv=>whnf);first|refine⟨rfl,?_⟩|refine⟨trivial,?_⟩)
    refine⟨by show d.length<=1000000;omega,?_⟩
    (conv=>whnf)
    refine ag.2 ⟨fun h6=> ?gc,fun h6=> ?gd⟩
    case gc=>
     have h6:(!decide (k[x].dot∈d))=true:=h6;have hA:lT ⟨c,k,d⟩ k[x]=true:=by simp only[lT,h5,h6,E4]
     simp only[hA,Bb]at hf
     (conv=>whnf)
     refine au.2 ⟨_,cE hlt',?_⟩
     (conv=>whnf)
     refine⟨k[x],rfl,?_⟩
     (conv=>whnf)
     refine af.2 ⟨th _ hz,?_⟩
     (conv=>whnf)
     refine af.2 ⟨ch x (by omega),?_⟩
     (conv=>whnf)
     refine⟨(x+1:Nat),hlt',mu,?_⟩
     repeat' (first|exact trivial|exact rfl|((conv=>whnf);first|(apply aJ<;>intro)|apply And.intro))
     all_goals ((conv=>whnf);rw[hf])
    case' gd=>
     have h6:(!decide (k[x].dot∈d))=false:=h6;have hA:lT ⟨c,k,d⟩ k[x]=false:=by simp only[lT,h6,BW]
   case' gb=>
    have h5:(k[x].kind==1)=false:=h5;have hA:lT ⟨c,k,d⟩ k[x]=false:=by simp only[lT,h5,Bg]
   all_goals
    simp only[hA,Ao,AK,A9]at hf
    (conv=>whnf)
    refine af.2 ⟨ch x (by omega),?_⟩
    (conv=>whnf)
    refine⟨(x+1:Nat),hlt',mu,?_⟩
    repeat' (first|exact trivial|exact rfl|((conv=>whnf);first|(apply aJ<;>intro)|apply And.intro))
    all_goals ((conv=>whnf);rw[hf])
 . (conv=>whnf)
   refine⟨by rw[xM (gz hge)];rfl,?_⟩
   repeat' (first|exact trivial|exact rfl|((conv=>whnf);first|(apply aJ<;>intro)|apply And.intro)))
noncomputable def Ga (f:FuncId):Option aM:=bif Nat.beq f rl then some LP else x5 f
theorem Ki:∀g C,Ga g=some C->CO g C:=bG Wm Ck
theorem Zf:CO Gg M6:=bO (cfg:=fun y=>cg Ga (cr Gg 4 (OX y))) bA (fun _=>rfl) (fun _=>Ki) (n:=600) (by
 rintro⟨m,k⟩ (hm:fN m);have hal:=vZ hm
 (conv=>whnf)
 refine⟨m,?_⟩
 repeat ((conv=>whnf);first|refine⟨rfl,?_⟩|refine⟨trivial,?_⟩)
 refine⟨hm,?_⟩
 (conv=>whnf)
 refine⟨⟨(0:Nat),Au _,?_⟩,?_⟩
 . repeat' (first|exact trivial|exact rfl|((conv=>whnf);first|(apply aJ<;>intro)|apply And.intro))
 intro (x:Nat) hx;have hx:x<=(cF m).length:=hx;have hlen:=C9 (l:=cF m) (x:=x) (p:=fun e:ae=>decide (e.key=k))
 (conv=>whnf)
 refine aJ (fun hlt=>?_) fun hge=>?_
 . have hlt':x<(cF m).length:=cq hlt;have hf:=uA (p:=fun e:ae=>decide (e.key=k)) hlt';have mu:(cF m).length - (x+1)<(cF m).length - x:=by omega
   have hz:(((cF m).take x).filter fun e:ae=>decide (e.key=k)).length+1<=60000:=by omega
   (conv=>whnf)
   refine au.2 ⟨_,cE hlt',?_⟩
   (conv=>whnf)
   refine aJ (fun h=>?_) fun h=>?_
   . have h:decide ((cF m)[x].key=k)=true:=by rw[mj]at h;exact h
     simp only[h,Bb]at hf
     (conv=>whnf)
     refine au.2 ⟨_,cE hlt',?_⟩
     (conv=>whnf)
     refine⟨(cF m)[x],rfl,?_⟩
     (conv=>whnf)
     refine af.2 ⟨th _ hz,?_⟩
     (conv=>whnf)
     refine af.2 ⟨ch x (by omega),?_⟩
     (conv=>whnf)
     refine⟨(x+1:Nat),hlt',mu,?_⟩
     repeat' (first|exact trivial|exact rfl|((conv=>whnf);first|(apply aJ<;>intro)|apply And.intro))
     all_goals ((conv=>whnf);rw[hf])
   . have h:decide ((cF m)[x].key=k)=false:=by rw[mj]at h;exact h
     simp only[h,Ao,AK,A9]at hf
     (conv=>whnf)
     refine af.2 ⟨ch x (by omega),?_⟩
     (conv=>whnf)
     refine⟨(x+1:Nat),hlt',mu,?_⟩
     repeat' (first|exact trivial|exact rfl|((conv=>whnf);first|(apply aJ<;>intro)|apply And.intro))
     all_goals ((conv=>whnf);rw[hf])
 . (conv=>whnf)
   refine⟨by rw[xM (gz hge)];rfl,?_⟩
   repeat' (first|exact trivial|exact rfl|((conv=>whnf);first|(apply aJ<;>intro)|apply And.intro)))
noncomputable def x6 (f:FuncId):Option aM:=bif Nat.beq f Gg then some M6 else Ga f
theorem Cl:∀g C,x6 g=some C->CO g C:=bG Zf Ki
theorem Yc:CO GG MV:=bO (cfg:=fun y=>cg x6 (cr GG 4 (YD y))) bA (fun _=>rfl) (fun _=>Cl) (n:=600) (by
 rintro⟨m,k⟩ (hm:fN m);have hkl:=xa hm k
 (conv=>whnf)
 refine⟨(m,k),?_⟩
 repeat ((conv=>whnf);first|refine⟨rfl,?_⟩|refine⟨trivial,?_⟩)
 refine⟨hm,?_⟩
 (conv=>whnf)
 refine⟨⟨(0:Nat),Au _,?_⟩,?_⟩
 . repeat' (first|exact trivial|exact rfl|((conv=>whnf);first|(apply aJ<;>intro)|apply And.intro))
 intro (x:Nat) hx;have hx:x<=(aU m k).length:=hx
 (conv=>whnf)
 refine aJ (fun hlt=>?_) fun hge=>?_
 . have hlt':x<(aU m k).length:=cq hlt;have hf:=wS (fun e:ae=>e.dot) hlt'
   (conv=>whnf)
   refine au.2 ⟨_,cE hlt',?_⟩
   (conv=>whnf)
   refine⟨(aU m k)[x].dot,rfl,?_⟩
   (conv=>whnf)
   refine af.2 ⟨rr _ (by simp;omega),?_⟩
   (conv=>whnf)
   refine af.2 ⟨ch x (by omega),?_⟩
   (conv=>whnf)
   refine⟨(x+1:Nat),hlt',by show(aU m k).length - (x+1)<(aU m k).length - x;omega,?_⟩
   repeat' (first|exact trivial|exact rfl|((conv=>whnf);first|(apply aJ<;>intro)|apply And.intro))
   all_goals ((conv=>whnf);rw[hf])
 . have hge':(aU m k).length<=x:=gf hge
   (conv=>whnf)
   refine⟨by rw[As hge'];rfl,?_⟩
   repeat' (first|exact trivial|exact rfl|((conv=>whnf);first|(apply aJ<;>intro)|apply And.intro)))
theorem w7 {l:List ae} {x:Nat} (h:x<l.length):dM (l.take (x+1))=some (match dM (l.take x)with|none=>l[x]|some y=>if kG l[x].bu y.bu then y else l[x]):=by
 unfold dM;rw[kW _ _ h];generalize (l.take x).foldl _ none=b
 cases b with
 |none=>rfl
 |some y=>simp only;split<;>rfl
theorem uI {l:List ae} {x:Nat} (h0:0<x) (h:x<=l.length):∃y,dM (l.take x)=some y:=by
 obtain⟨k,rfl⟩:∃k,x=k+1:=⟨x - 1,by omega⟩;exact⟨_,w7 (by omega)⟩
theorem T1:CO qS Ku:=bO (cfg:=fun y=>cg x6 (cr qS 4 (Ur y))) bA (fun _=>rfl) (fun _=>Cl) (n:=600) (by
 rintro⟨m,k⟩ (hm:fN m);have hkl:=xa hm k
 (conv=>whnf)
 refine⟨(m,k),?_⟩
 repeat ((conv=>whnf);first|refine⟨rfl,?_⟩|refine⟨trivial,?_⟩)
 refine⟨hm,?_⟩
 (conv=>whnf)
 refine⟨⟨(0:Nat),Au _,?_⟩,?_⟩
 . repeat' (first|exact trivial|exact rfl|((conv=>whnf);first|(apply aJ<;>intro)|apply And.intro))
 intro (x:Nat) hx;have hx:x<=(aU m k).length:=hx
 (conv=>whnf)
 refine aJ (fun hlt=>?_) fun hge=>?_
 . have hlt':x<(aU m k).length:=cq hlt;have hn:=w7 hlt';have mu:(aU m k).length - (x+1)<(aU m k).length - x:=by omega
   (conv=>whnf)
   refine ag.2 ⟨fun h0=> ?ga,fun h0=> ?gb⟩
   case' ga=>
    have h0:x=0:=by
      have h0:((x:Int)==0)=true:=h0;simpa using h0
    have hw:(dM ((aU m k).take (x+1))).getD gQ=(aU m k)[x]:=by rw[hn];subst h0;rfl
   case' gb=>
    have h0:0<x:=by
      have h0:((x:Int)==0)=false:=h0;simp at h0;omega
    obtain⟨y,hy⟩:=uI h0 hx;have hgd:(dM ((aU m k).take x)).getD gQ=y:=by rw[hy];rfl
    rw[hy]at hn
    (conv=>whnf)
    refine au.2 ⟨_,cE hlt',?_⟩
    (conv=>whnf)
    refine⟨((aU m k)[x].bu,((dM ((aU m k).take x)).getD gQ).bu),?_⟩
    repeat ((conv=>whnf);first|refine⟨rfl,?_⟩|refine⟨trivial,?_⟩)
    (conv=>whnf)
    refine ag.2 ⟨fun h1=> ?gc,fun h1=> ?gd⟩
    case' gc=>
      have h1:kG (aU m k)[x].bu y.bu=false:=by
       have h1:(!kG (aU m k)[x].bu ((dM ((aU m k).take x)).getD gQ).bu)=true:=h1;rw[hgd]at h1;simpa using h1
      have hw:(dM ((aU m k).take (x+1))).getD gQ=(aU m k)[x]:=by rw[hn];simp[h1]
    case gd=>
      have h1:kG (aU m k)[x].bu y.bu=true:=by
       have h1:(!kG (aU m k)[x].bu ((dM ((aU m k).take x)).getD gQ).bu)=false:=h1;rw[hgd]at h1;simpa using h1
      have hw:(dM ((aU m k).take (x+1))).getD gQ=(dM ((aU m k).take x)).getD gQ:=by rw[hn,hgd];simp[h1]
      (conv=>whnf)
      refine af.2 ⟨ch x (by omega),?_⟩
      (conv=>whnf)
      refine⟨(x+1:Nat),hlt',mu,?_⟩
      repeat' (first|exact trivial|(with_reducible exact rfl)|((conv=>whnf);first|(apply aJ<;>intro)|apply And.intro))
      all_goals first|exact rfl|(rw[hw];exact rfl)
   all_goals
    (conv=>whnf)
    refine au.2 ⟨_,cE hlt',?_⟩
    (conv=>whnf)
    refine af.2 ⟨ch x (by omega),?_⟩
    (conv=>whnf)
    refine⟨(x+1:Nat),hlt',mu,?_⟩
    repeat' (first|exact trivial|(with_reducible exact rfl)|((conv=>whnf);first|(apply aJ<;>intro)|apply And.intro))
    all_goals first|exact rfl|(rw[hw];exact rfl)
 . have hge':(aU m k).length<=x:=gf hge;have e:(aU m k).take x=aU m k:=As hge';have h2:bw 0 (Int.ofNat (aU m k).length)=(dM (aU m k)).isSome:=by
    rw[cj,AN,Ab];constructor
    . intro h;obtain⟨y,hy⟩:=uI (l:=aU m k) (x:=(aU m k).length) (by simp only[Aa]at h;omega) (Ai _);rw[Bu]at hy;rw[hy];rfl
    . intro h
      cases hk:aU m k with
      |nil=>rw[hk]at h;cases h
      |cons a l=>simp<;>omega
   repeat' (first|exact trivial|(with_reducible exact rfl)|((conv=>whnf);first|(apply aJ<;>intro)|apply And.intro))
   all_goals first|exact rfl|exact h2|(rw[e];done)|(rw[e];exact rfl))
noncomputable def x7 (f:FuncId):Option aM:=bif Nat.beq f qS then some Ku else bif Nat.beq f GG then some MV else x6 f
theorem Cm:∀g C,x7 g=some C->CO g C:=bG T1 (bG Yc Cl)
end
end Go.Proofs
namespace Go.Proofs
open Go Go.Am Go.RowKit Go.Sy Go.Gm
section
section
variable {K V:Type} [DecidableEq K]
theorem bN {L:List (K×V)} {k:K}:aE L k=none↔k∉L.map (·.1):=by
 unfold aE;rw[E8,DH];constructor
 . rintro h hm;obtain⟨x,hx,rfl⟩:=Av.1 hm;exact h x hx (by simp)
 . rintro h x hx he;exact h (Av.2 ⟨x,hx,(Bv he).symm⟩)
theorem mg {L:List (K×V)} {k:K} {v:V} (h:aE L k=some v):(k,v)∈L:=by
 unfold aE at h;obtain⟨x,hx,rfl⟩:=A1.1 h;have h1:=List.find?_some hx;have h2:=Eh hx;have:k=x.1:=Bv h1;subst this;exact h2
theorem CR {k:K} {u v:V}:∀{L:List (K×V)},(L.map (·.1)).Nodup->(k,u)∈L->(k,v)∈L->u=v
 |[],_,h,_=>by cases h
 |y::L,hn,h1,h2=>by
  rw[A4,B7]at hn;rcases Ak.1 h1 with h1|h1<;>rcases Ak.1 h2 with h2|h2
  . rw[<-h1,BP]at h2;exact h2.2.symm
  . exact absurd (Av.2 ⟨_,h2,by rw[<-h1]⟩) hn.1
  . exact absurd (Av.2 ⟨_,h1,by rw[<-h2]⟩) hn.1
  . exact CR hn.2 h1 h2
theorem zY {L:List (K×V)} {k:K} {v:V} (hn:(L.map (·.1)).Nodup):aE L k=some v↔(k,v)∈L:=by
 refine⟨mg,fun h=>?_⟩
 cases e:aE L k with
 |none=>exact absurd (Av.2 ⟨(k,v),h,rfl⟩) (bN.1 e)
 |some u=>rw[CR hn (mg e) h]
theorem ny (k:K):aE ([]:List (K×V)) k=none:=rfl
theorem tY (x:K×V) (L:List (K×V)) (k:K):aE (x::L) k=if k=x.1 then some x.2 else aE L k:=by
 unfold aE;rw[DG];by_cases h:k=x.1<;>simp[h]
theorem Ry (L M:List (K×V)) (k:K):aE (L++M) k=(aE L k).or (aE M k):=by
 unfold aE;rw[DQ]
 cases List.find? (fun x:K×V=>decide (k=x.1)) L<;>simp
theorem iK (L:List (K×V)) (k k':K) (v:V):aE (cB L k v) k'=if k'=k then some v else aE L k':=by
 have key:∀L:List (K×V),aE (L.map fun x=>if k=x.1 then(k,v)else x) k'=if k'=k then(if k∈L.map (·.1)then some v else none)else aE L k':=by
   intro L;induction L with
   |nil=>simp[ny]
   | cons x L ih=>
     rw[A4,tY,tY,ih,A4];by_cases h1:k=x.1
     . by_cases h2:k'=k
       . rw[An h1];simp only[h2,Bb];rw[An (by rw[h1];exact Ar)]
       . have h3:¬k'=x.1:=fun e=>h2 (e.trans h1.symm)
         rw[An h1];simp only[Aj h2,Aj h3]
     . by_cases h2:k'=k
       . rw[Aj h1];have h3:¬k'=x.1:=fun e=>h1 (h2.symm.trans e)
         simp only[An h2,Aj h3,Ak,h1,false_or]
       . rw[Aj h1];simp only[Aj h2]
 unfold cB;split
 . rename_i hm;rw[key,An hm]
 . rename_i hm;rw[Ry,tY,ny];by_cases h2:k'=k
   . rw[An h2,An h2,h2,bN.2 hm];rfl
   . rw[Aj h2,Aj h2];cases aE L k'<;>rfl
theorem Cq (L:List (K×V)) (k k':K):aE (dz L k) k'=if k'=k then none else aE L k':=by
 unfold dz aE;rw[List.find?_filter];by_cases h:k'=k
 . rw[An h,E8,DH];intro x hx;simp[h]
 . rw[Aj h];congr 2
   funext x
   by_cases e:k'=x.1
   . have:¬k=x.1:=fun e2=>h (e.trans e2.symm)
     simp[e,this]
   . simp[e]
theorem RH {L:List (K×V)} {k:K} (h:aE L k=none) (v:V):(cB L k v).length=L.length+1:=by
 unfold cB;rw[Aj (bN.1 h)];simp
theorem mem_keys {L:List (K×V)} {k:K}:k∈L.map (·.1)↔(aE L k).isSome=true:=by
 rw[Eg,Ds,bN,Decidable.not_not]
end
abbrev DL:=List (ar×Int)
structure bD where
 kept:List (ar×(Value×ae))
 alive:List (aA×(Nat×DL))
 dead:DL
 vec:List ((Int×Int)×Int)
def pC (A:List (aA×(Nat×DL))) (nb:Nat) (k:aA) (d:ar):List (aA×(Nat×DL)):=
 match aE A k with
 |none=>cB A k (nb,[(d,1)])
 |some x=>cB A k (x.1,cB x.2 d 1)
def nP (A:List (aA×(Nat×DL))) (k:aA) (d:ar):List (aA×(Nat×DL)):=
 match aE A k with
 |none=>A
 |some x=>if dz x.2 d=[]then dz A k else cB A k (x.1,dz x.2 d)
def ke (G:bD) (d:ar):bD:={G with dead:=cB G.dead d 1,alive:=match aE G.kept d with
 |some x=>if x.2.kind=1 then nP G.alive x.2.key d else G.alive
 |none=>G.alive}
def gM (G:bD) (e:ae) (v:Value):bD:={G with vec:=cB G.vec (e.dot.dev,e.dot.inc) e.dot.seq,kept:=cB G.kept e.dot (v,e)}
def iB (G:bD) (e:ae) (nb:Nat):bD:=if e.kind=1/\aE G.dead e.dot=none then{G with alive:=pC G.alive nb e.key e.dot}else G
def kH (G:bD) (l:List ar):bD:=l.foldl ke G
def gx (A:List (aA×(Nat×DL))) (k:aA) (d:ar):Prop:=∃x,aE A k=some x/\(aE x.2 d).isSome=true
def sY (A:List (aA×(Nat×DL))):Prop:=∀k x,aE A k=some x->x.2≠[]
theorem Uf {A:List (aA×(Nat×DL))} {nb:Nat} {k k':aA} {d d':ar}:gx (pC A nb k d) k' d'↔gx A k' d'\/(k'=k/\d'=d):=by
 unfold gx pC
 cases e:aE A k with
 |none=>
  simp only[iK];by_cases h:k'=k
  . subst h;by_cases h2:d'=d
    . subst h2;simp[e,ny,tY]
    . simp[e,ny,tY,h2]
  . simp[h]
 |some x=>
  simp only[iK];by_cases h:k'=k
  . subst h;by_cases h2:d'=d
    . subst h2;simp[iK]
    . simp[e,iK,h2]
  . simp[h]
theorem YX {K V:Type} [DecidableEq K] (L:List (K×V)) (k:K) (v:V):cB L k v≠[]:=by
 intro e;have:=iK L k k v;rw[e,ny]at this;simp at this
theorem T9 {A:List (aA×(Nat×DL))} {nb:Nat} {k:aA} {d:ar} (h:sY A):sY (pC A nb k d):=by
 intro k' x hx;unfold pC at hx;split at hx
 . rw[iK]at hx;split at hx
   . cases hx;simp
   . exact h k' x hx
 . rw[iK]at hx;split at hx
   . cases hx;exact YX _ _ _
   . exact h k' x hx
theorem Ue {A:List (aA×(Nat×DL))} {k k':aA} {d d':ar}:gx (nP A k d) k' d'↔gx A k' d'/\ ¬(k'=k/\d'=d):=by
 unfold gx nP
 cases e:aE A k with
 |none=>
  simp only;by_cases h:k'=k
  . subst h;simp[e]
  . simp[h]
 |some x=>
  have hdel:=Cq x.2 d d';simp only;split
  . rename_i hnil;rw[Cq];by_cases h:k'=k
    . subst h;simp only[Bb,e];rw[hnil]at hdel;by_cases h2:d'=d
      . simp[h2]
      . rw[Aj h2]at hdel;simp[h2,<-hdel,ny]
    . simp[h]
  . rw[iK];by_cases h:k'=k
    . subst h;simp only[Bb,e];by_cases h2:d'=d
      . subst h2;simp[hdel]
      . rw[Aj h2]at hdel;simp[h2,hdel]
    . simp[h]
theorem T8 {A:List (aA×(Nat×DL))} {k:aA} {d:ar} (h:sY A):sY (nP A k d):=by
 intro k' x hx;unfold nP at hx;split at hx
 . exact h k' x hx
 . split at hx
   . rw[Cq]at hx;split at hx
     . cases hx
     . exact h k' x hx
   . rename_i hne;rw[iK]at hx;split at hx
     . cases hx;exact hne
     . exact h k' x hx
structure l4 (kept:List (ar×(Value×ae))) (dead:ar->Prop) (A:List (aA×(Nat×DL))):Prop where
 al:∀k d,gx A k d↔∃x,aE kept d=some x/\x.2.kind=1/\x.2.key=k/\ ¬dead d
 full:sY A
theorem l4.kill {G:bD} {d:ar} (h:l4 G.kept (fun x=>(aE G.dead x).isSome=true) G.alive):l4 (ke G d).kept (fun x=>(aE (ke G d).dead x).isSome=true) (ke G d).alive:=by
 have hdead:∀x,(aE (ke G d).dead x).isSome=true↔(aE G.dead x).isSome=true\/x=d:=fun x=>by
   show(aE (cB G.dead d 1) x).isSome=true↔_
   rw[iK];by_cases e:x=d<;>simp[e]
 refine⟨fun k d'=>?_,?_⟩
 . show gx (match aE G.kept d with|some x=>if x.2.kind=1 then nP G.alive x.2.key d else G.alive|none=>G.alive) k d'↔∃x,aE G.kept d'=some x/\_
   simp only[hdead]
   cases e:aE G.kept d with
   | none=>
     simp only[h.al];constructor
     . rintro⟨x,h1,h2,h3,h4⟩;exact⟨x,h1,h2,h3,fun hh=>hh.elim h4 fun e2=>by subst e2;rw[e]at h1;cases h1⟩
     . rintro⟨x,h1,h2,h3,h4⟩;exact⟨x,h1,h2,h3,fun hh=>h4 (.inl hh)⟩
   | some y=>
     simp only;split
     . rename_i hk;rw[Ue,h.al];constructor
       . rintro⟨⟨x,h1,h2,h3,h4⟩,h5⟩;exact⟨x,h1,h2,h3,fun hh=>hh.elim h4 fun e2=>by subst e2;rw[e]at h1;cases h1;exact h5 ⟨h3.symm,rfl⟩⟩
       . rintro⟨x,h1,h2,h3,h4⟩;exact⟨⟨x,h1,h2,h3,fun hh=>h4 (.inl hh)⟩,fun hh=>h4 (.inr hh.2)⟩
     . rename_i hk;rw[h.al];constructor
       . rintro⟨x,h1,h2,h3,h4⟩;exact⟨x,h1,h2,h3,fun hh=>hh.elim h4 fun e2=>by subst e2;rw[e]at h1;cases h1;exact hk h2⟩
       . rintro⟨x,h1,h2,h3,h4⟩;exact⟨x,h1,h2,h3,fun hh=>h4 (.inl hh)⟩
 . show sY (match aE G.kept d with|some x=>if x.2.kind=1 then nP G.alive x.2.key d else G.alive|none=>G.alive)
   split
   . split
     . exact T8 h.full
     . exact h.full
   . exact h.full
theorem l4.tw {l:List ar} {G:bD} (h:l4 G.kept (fun x=>(aE G.dead x).isSome=true) G.alive):l4 (kH G l).kept (fun x=>(aE (kH G l).dead x).isSome=true) (kH G l).alive:=by
 induction l generalizing G with
 |nil=>exact h
 |cons d l ih=>exact ih h.kill
theorem Sr (l:List ar) (G:bD):(kH G l).kept=G.kept/\(kH G l).vec=G.vec:=by
 induction l generalizing G with
 |nil=>exact⟨rfl,rfl⟩
 |cons d l ih=>exact ih (ke G d)
theorem Th (l:List ar) (G:bD) (x:ar):(aE (kH G l).dead x).isSome=true↔(aE G.dead x).isSome=true\/x∈l:=by
 induction l generalizing G with
 |nil=>simp[kH]
 | cons d l ih=>
  have h:=ih (ke G d);have hd:(aE (ke G d).dead x).isSome=true↔(aE G.dead x).isSome=true\/x=d:=by
   show(aE (cB G.dead d 1) x).isSome=true↔_
   rw[iK];by_cases e:x=d<;>simp[e]
  show(aE (kH (ke G d) l).dead x).isSome=true↔_
  rw[h,hd,Ak,or_assoc]
def ou (L:List ((Int×Int)×Int)) (a i:Int):Int:=(aE L (a,i)).getD 0
structure cV (G:bD) (m:aK):Prop where
 vec:∀a i,ou G.vec a i=getM m.ctx a i
 kept:∀e:ae,e∈m.kept↔∃v,aE G.kept e.dot=some (v,e)
 keys:∀d x,aE G.kept d=some x->x.2.dot=d
 len:G.kept.length=m.kept.length
 sorted:m.kept.Pairwise fun x y=>bI x.dot y.dot=true
 ctx:∀e∈m.kept,eX m.ctx e.dot=true
 dead:∀d,(aE G.dead d).isSome=true↔d∈m.dead
 yH:l4 G.kept (fun x=>(aE G.dead x).isSome=true) G.alive
theorem cV.start:cV ⟨[],[],[],[]⟩ mr:=by
 refine⟨fun _ _=>rfl,fun e=>?_,fun d x h=>(by cases h),rfl,List.Pairwise.nil,fun e h=>(by cases h),fun d=>?_,⟨fun k d=>?_,fun k x h=>(by cases h)⟩⟩
 . simp[mr,ny]
 . simp[mr,ny]
 . simp[gx,ny]
theorem eD {x:ar} {a i:Int}:fE x a i=true↔x.dev=a/\x.inc=i:=by
 unfold fE;simp
theorem MP {a i n a' i':Int} (h:¬(a'=a/\i'=i)):∀(l:List ar) (s:List ar×Bool),(l.foldl (fy a i n) s).1.find? (fun x=>fE x a' i')=(s.1.find? fun x=>fE x a' i').or (l.find? fun x=>fE x a' i')
 |[],s=>by simp
 |x::l,s=>by
  have hn:fE ⟨a,i,n⟩ a' i'=false:=Ax.2 fun e=>h (by have:=eD.1 e;exact⟨this.1.symm,this.2.symm⟩)
  rw[Br,MP h l,DG];have hx:fE x a i=true->fE x a' i'=false:=fun e=>Ax.2 fun e2=>h (by have h1:=eD.1 e;have h2:=eD.1 e2;exact⟨h2.1.symm.trans h1.1,h2.2.symm.trans h1.2⟩)
  unfold fy
  cases e1:(!s.2&& !lS x a i)<;>cases e2:fE x a i<;>simp only[BT,Be,DQ,DG,Ez,hn,ET]
  . cases e3:fE x a' i'<;>simp
  . rw[hx e2]
  . cases e3:fE x a' i'<;>simp
  . rw[hx e2]
theorem MO {a i n:Int}:∀(l:List ar) (s:List ar×Bool),(s.1.find? fun x=>fE x a i)=(if s.2=true then some ⟨a,i,n⟩else none)->((l.foldl (fy a i n) s).1.find? fun x=>fE x a i)=if(l.foldl (fy a i n) s).2=true then some ⟨a,i,n⟩else none
 |[],s,h=>h
 |x::l,s,h=>by
  rw[Br];refine MO l _ ?_;have hn:fE ⟨a,i,n⟩ a i=true:=eD.2 ⟨rfl,rfl⟩;unfold fy
  cases e0:s.2<;>cases e1:lS x a i<;>cases e2:fE x a i<;>simp only[e0,Ao,AK,Bb]at h<;>simp only[Du,BV,DD,BW,Bp,Bg,BT,Be,e0,Bb,AK,Ao,DQ,h,DG,hn,e2,Ez,EU,Option.some_or,ET]
theorem K9 (l:List ar) (a i n:Int):gC l a i n=bif (l.foldl (fy a i n) ([],false)).2 then(l.foldl (fy a i n) ([],false)).1 else(l.foldl (fy a i n) ([],false)).1++[⟨a,i,n⟩]:=rfl
theorem Ll (l:List ar) (a i n a' i':Int):getM (gC l a i n) a' i'=if a'=a/\i'=i then n else getM l a' i':=by
 have hn:fE ⟨a,i,n⟩ a i=true:=eD.2 ⟨rfl,rfl⟩;split
 . rename_i h;obtain⟨rfl,rfl⟩:=h;have h1:=MO (a:=a') (i:=i') (n:=n) l ([],false) (by simp);unfold getM;rw[K9]
   cases e:(l.foldl (fy a' i' n) ([],false)).2
   . rw[e]at h1;simp only[Be,DQ,h1,Ao,AK,EU,DG,hn]
   . rw[e]at h1;simp only[BT,h1,Bb]
 . rename_i h;have h1:=MP (n:=n) h l ([],false);have hn2:fE ⟨a,i,n⟩ a' i'=false:=Ax.2 fun e=>h (by have:=eD.1 e;exact⟨this.1.symm,this.2.symm⟩)
   unfold getM;rw[K9];simp only[Ez,EU]at h1
   cases e:(l.foldl (fy a i n) ([],false)).2
   . simp only[Be,DQ,h1,DG,hn2,Ez,ET]
   . simp only[BT,h1]
section
variable {α:Type} {less:α->α->Bool}
theorem VG (l:List α) (e:α):l.take (cX less l e)=l.takeWhile fun x=>less x e:=by
 unfold cX;conv=>lhs;rw[<-EM (p:=fun x=>less x e) (l:=l)]
 rw[List.take_left'];simp
theorem Vc (l:List α) (e:α):l.drop (cX less l e)=l.dropWhile fun x=>less x e:=by
 unfold cX;conv=>lhs;arg 2;rw[<-EM (p:=fun x=>less x e) (l:=l)]
 rw[List.drop_left'];simp
theorem zp (htr:∀x y z,less x y=true->less y z=true->less x z=true) {e:α}:∀{l:List α},l.Pairwise (fun x y=>less x y=true)->(∀x∈l,less x e=true\/less e x=true)->(l.take (cX less l e)++e::l.drop (cX less l e)).Pairwise fun x y=>less x y=true:=by
 intro l hl ht;rw[VG,Vc];induction l with
 |nil=>simp
 |cons x l ih=>
  rw[BA]at hl;rw[BC,DA];by_cases h:less x e=true
  . simp only[h,Bb,BO,BA];refine⟨fun y hy=>?_,ih hl.2 fun y hy=>ht y (AB _ hy)⟩;rcases A7.1 hy with hy|hy
    . exact hl.1 y (List.takeWhile_subset _ hy)
    . rcases Ak.1 hy with rfl|hy
      . exact h
      . exact hl.1 y (List.dropWhile_subset _ hy)
  . simp only[h,AK,BS,BA,Ao];have h1:less e x=true:=(ht x Ar).resolve_left h;refine⟨fun y hy=>?_,hl⟩;rcases Ak.1 hy with rfl|hy
    . exact h1
    . exact htr _ _ _ h1 (hl.1 y hy)
theorem CP (l:List α) (e x:α):x∈l.take (cX less l e)++e::l.drop (cX less l e)↔x∈l\/x=e:=by
 conv=>rhs;lhs;rw[<-Dh (cX less l e) l]
 simp only[A7,Ak];constructor
 . rintro(h|h|h)
   . exact .inl (.inl h)
   . exact .inr h
   . exact .inl (.inr h)
 . rintro((h|h)|h)
   . exact .inl h
   . exact .inr (.inr h)
   . exact .inr (.inl h)
theorem Wf [DecidableEq α] (l:List α) (e x:α):x∈fT less l e↔x∈l\/x=e:=by
 unfold fT;split
 . rename_i h;refine⟨.inl,fun hh=>hh.elim id fun hx=>?_⟩;subst hx;exact Bz h
 . exact CP l e x
theorem TP [DecidableEq α] (l a:List α) (x:α):x∈l.foldl (fT less) a↔x∈a\/x∈l:=by
 induction l generalizing a with
 |nil=>simp
 |cons y l ih=>rw[Br,ih,Wf,Ak,or_assoc]
theorem rG [DecidableEq α] (l:List α) (x:α):x∈cz less l↔x∈l:=by
 unfold cz;rw[TP];simp
end
variable [Inhabited aL]
theorem cV.none {G:bD} {m:aK} (h:cV G m) {e:ae} (hh:eX m.ctx e.dot=false):aE G.kept e.dot=none:=by
 cases he:aE G.kept e.dot with
 |none=>rfl
 |some x=>
  have h1:=h.keys _ _ he;have h2:=(h.kept x.2).2 ⟨x.1,by rw[h1,he]⟩;have h3:=h.ctx _ h2;rw[h1,hh]at h3;cases h3
def qn (G:bD) (e:ae) (v:Value) (nb:Nat):bD:=kH (iB (gM G e v) e nb) e.over
theorem J5 (G:bD) (e:ae) (nb:Nat):(iB G e nb).kept=G.kept/\(iB G e nb).vec=G.vec/\(iB G e nb).dead=G.dead:=by
 unfold iB;split<;>exact⟨rfl,rfl,rfl⟩
theorem l4.take {G:bD} {e:ae} {v:Value} {nb:Nat} (h:l4 G.kept (fun x=>(aE G.dead x).isSome=true) G.alive) (hn:aE G.kept e.dot=none):
   l4 (iB (gM G e v) e nb).kept (fun x=>(aE (iB (gM G e v) e nb).dead x).isSome=true) (iB (gM G e v) e nb).alive:=by
 obtain⟨k1,k2,k3⟩:=J5 (gM G e v) e nb;rw[k1,k3];have hk:∀d,aE (gM G e v).kept d=if d=e.dot then some (v,e)else aE G.kept d:=fun d=>iK _ _ _ _
 have hno:∀k,¬gx G.alive k e.dot:=fun k hh=>by
   obtain⟨x,hx,_⟩:=(h.al k e.dot).1 hh;rw[hn]at hx;cases hx
 show l4 _ (fun x=>(aE G.dead x).isSome=true) _
 unfold iB;split
 . rename_i hc;have hd:¬(aE G.dead e.dot).isSome=true:=by
     have:=hc.2;rw[show(gM G e v).dead=G.dead from rfl]at this;rw[this];simp
   refine⟨fun k d=>?_,T9 h.full⟩;show gx (pC G.alive nb e.key e.dot) k d↔_
   rw[Uf,hk];by_cases hd2:d=e.dot
   . subst hd2;simp only[Bb];constructor
     . rintro(hh|⟨hh,_⟩)
       . exact absurd hh (hno k)
       . exact⟨_,rfl,hc.1,hh.symm,hd⟩
     . rintro⟨x,hx,_,h3,_⟩
       cases hx;exact .inr ⟨h3.symm,trivial⟩
   . simp only[Aj hd2,hd2,and_false,Dr];exact h.al k d
 . rename_i hc;refine⟨fun k d=>?_,h.full⟩;show gx G.alive k d↔_
   rw[hk];by_cases hd2:d=e.dot
   . subst hd2;simp only[Bb];refine⟨fun hh=>absurd hh (hno k),?_⟩;rintro⟨x,hx,h2,_,h4⟩
     cases hx;refine absurd ⟨h2,?_⟩ hc;show aE G.dead e.dot=none
     cases e5:aE G.dead e.dot with
     |none=>rfl
     |some z=>rw[e5]at h4;simp at h4
   . simp only[Aj hd2];exact h.al k d
theorem cV.apply {G:bD} {m:aK} {e:ae} (h:cV G m) (v:Value) (nb:Nat) (hr:gB e=true) (hh:eX m.ctx e.dot=false) (hs:getM m.ctx e.dot.dev e.dot.inc+1=e.dot.seq) (hk:¬2048<=m.kept.length):
   cV (qn G e v nb) (eo m e).1/\(eo m e).2=(true,0):=by
 have hA:eo m e=(⟨gC m.ctx e.dot.dev e.dot.inc e.dot.seq,gk m.kept e,cz bI (m.dead++e.over)⟩,true,0):=by
   unfold eo;rw[Aj (by simp[hr]),Aj (by simp[hh]),Aj (by simp[hs]),Aj hk]
 rw[hA];refine⟨?_,rfl⟩;have hn:=h.none hh;obtain⟨k1,k2,k3⟩:=J5 (gM G e v) e nb;obtain⟨q1,q2⟩:=Sr e.over (iB (gM G e v) e nb);have hkept:(qn G e v nb).kept=cB G.kept e.dot (v,e):=q1.trans k1;have hvec:(qn G e v nb).vec=cB G.vec (e.dot.dev,e.dot.inc) e.dot.seq:=q2.trans k2;have hput:∀x,x∈gk m.kept e↔x∈m.kept\/x=e:=fun x=>CP m.kept e x
 have hdot:∀x∈m.kept,x.dot≠e.dot:=fun x hx he=>by
   have:=h.ctx x hx;rw[he,hh]at this;cases this
 refine⟨fun a i=>?_,fun x=>?_,fun d x hx=>?_,?_,?_,fun x hx=>?_,fun d=>?_,?_⟩
 . show ou (qn G e v nb).vec a i=getM (gC m.ctx e.dot.dev e.dot.inc e.dot.seq) a i
   rw[hvec,Ll];unfold ou;rw[iK];by_cases hc:a=e.dot.dev/\i=e.dot.inc
   . rw[An hc,An (by rw[hc.1,hc.2])];rfl
   . rw[Aj hc,Aj (by intro he;rw[BP]at he;exact hc he)];exact h.vec a i
 . show x∈gk m.kept e↔_
   rw[hput,hkept];simp only[iK];constructor
   . rintro(hx|rfl)
     . rw[Aj (hdot x hx)];exact(h.kept x).1 hx
     . exact⟨v,by simp⟩
   . rintro⟨u,hu⟩;split at hu
     . cases hu;exact .inr rfl
     . exact .inl ((h.kept x).2 ⟨u,hu⟩)
 . rw[hkept,iK]at hx;split at hx
   . rename_i he;cases hx;exact he.symm
   . exact h.keys d x hx
 . show(qn G e v nb).kept.length=(gk m.kept e).length
   rw[hkept,RH hn,K5,h.len]
 . show(gk m.kept e).Pairwise _
   refine zp (less:=oB) (fun x y z=>vy) h.sorted fun x hx=>?_
   rcases y9 x.dot e.dot with h1|h1|h1
   . exact .inl h1
   . exact absurd h1 (hdot x hx)
   . exact .inr h1
 . have hx:x∈gk m.kept e:=hx;show eX (gC m.ctx e.dot.dev e.dot.inc e.dot.seq) x.dot=true
   unfold eX;rw[Ll];rcases(hput x).1 hx with hx|rfl
   . have h1:=h.ctx x hx;unfold eX at h1;rw[Ac]at h1⊢;refine⟨h1.1,?_⟩;have h2:=h1.2;rw[fi,Ab]at h2⊢;split
     . rename_i hc;rw[hc.1,hc.2]at h2;omega
     . exact h2
   . rw[wv hr,An ⟨rfl,rfl⟩,fi];simp
 . show(aE (kH (iB (gM G e v) e nb) e.over).dead d).isSome=true↔d∈cz bI (m.dead++e.over)
   rw[Th,rG,A7,k3];show(aE G.dead d).isSome=true\/_↔_
   rw[h.dead]
 . exact(h.yH.take hn).tw
end
theorem CT {Fz:Nat->Option AO} {n:Nat} (l:List Int):aT Fz (.agg (l.map i64)) (dy n (.agg (l.map fun z=>Value.int .i64 z).toArray)):=by
 unfold dy;refine .agg (by simp) fun i c v hc hv=>?_
 simp only[AR]at hc hv
 cases h:l[i]? with
 |none=>rw[h]at hc;cases hc
 |some z=>
  rw[h]at hc;simp[h]at hv
  cases hc;rw[<-hv];exact .int _ _
theorem yf {C:Inhabited aL->aM} {f:FuncId} {fn:Func} {body:Code} (hc:∀I:Inhabited aL, @Go.Sy.cJ I Tryz.prog Tryz.tab f (C I)) (hfn:Tryz.tab.fns.get f=some fn) (hb:fn.body=some body) {args:List Value} {w:World} {b:Bool}
  (hy:∀I:Inhabited aL,∃y,(C I).pre y/\PL (bW Tryz.tab w).get ((C I).args y) (args.map (dy w.heap.size))/\(C I).res y= .bool b):Calls Tryz.prog f args.toArray w fun e w'=>e= .returned (.bool b)/\Below w.heap.size w w':=by
 letI:Inhabited aL:=⟨⟨True,#[]⟩⟩
 obtain⟨y,h1,h2,h3⟩:=hy inferInstance;refine Calls.mono (nh bA.ok (hc inferInstance) hfn hb h1 h2 (db.oV rfl _)) ?_;rintro e w' ⟨v,rfl,hv,hbel,_⟩;rw[h3]at hv
 cases hv;exact⟨rfl,hbel⟩
section
variable [Inhabited aL]
def YB (p:World->Prop):Prop:=∀w,db w->p w
theorem Ge {w:World} {p:Nat->Prop} {g:Bool} {a:Addr} {v:Value} (h:Rd w p g (.wp a) v):v= .pointer (some a):=by cases h;rfl
theorem YY {w:World} {p:Nat->Prop} {g:Bool} {n:Int} {v:Value} (h:Rd w p g (i64 n) v):v= .int .i64 n:=by cases h;rfl
end
def C6 [Inhabited aL]:aM:={Y:=ar,pre:=fun _=>True,args:=fun d=>[.agg [i64 d.dev,i64 d.inc],i64 d.seq],res:=fun d=> .bool (fB d)}
theorem VY [Inhabited aL]:CO OI C6:=bO (C:=C6) (cfg:=fun y=>cg x7 (cS y)) bA (fun _=>rfl) (fun _=>Cm) (n:=400) (by
 intro (d:ar) _
 (conv=>whnf)
 refine⟨d,?_⟩
 repeat ((conv=>whnf);first|refine⟨rfl,?_⟩|refine⟨trivial,?_⟩)
 repeat' (first|exact trivial|exact rfl|((conv=>whnf);first|(apply aJ<;>intro)|apply And.intro)))
theorem Pm (a i n:Int) (w:World):Calls Tryz.prog 147 #[.agg #[.int .i64 a, .int .i64 i], .int .i64 n] w fun e w'=>e= .returned (.bool (fB ⟨a,i,n⟩))/\Below w.heap.size w w':=
 yf (C:=fun I=> @C6 I) (fun I=> @VY I) (hfn:=rfl) (hb:=rfl) (args:=[.agg #[.int .i64 a, .int .i64 i], .int .i64 n]) (fun I=>⟨⟨a,i,n⟩,trivial,⟨rfl,fun j c v hc hv=>by
  match j with
  |0=>cases hc;cases hv;exact CT [a,i]
  |1=>cases hc;cases hv;exact .int _ _
  |_+2=>cases hc⟩,rfl⟩)
theorem Px {w:World} {bv:Nat} {L:List ((Int×Int)×Int)} (hm:aC w bv eH cN L) (a i:Int):∀w':World,w'.heap[bv]? =w.heap[bv]? ->(Instr.lookup 147 (.map (some bv)) (.agg #[.int .i64 a, .int .i64 i]) false).run Tryz.prog w'= .ok (.int .i64 ((aE L (a,i)).getD 0)) w':=fun w' h=>by
 have:=(hm.same h).lookup Gq Tryz.underlying147 (u4 w') (a,i) false;simp only[Ao,AK]at this;rw[show eH (a,i)= .agg #[.int .i64 a, .int .i64 i]from rfl]at this;rw[this]
 cases aE L (a,i)<;>rfl
structure eS (S:Nat->Prop) (w w':World):Prop where
 os:w'.os=w.os
 tape:w'.tape=w.tape
 output:w'.output=w.output
 size:w.heap.size<=w'.heap.size
 block:∀k,k<w.heap.size->¬S k->w'.heap[k]? =w.heap[k]?
theorem lK {S:Nat->Prop} {w w':World} (h:Below w.heap.size w w'):eS S w w':=⟨h.os,h.tape,h.output,h.size,fun k hk _=>h.block k hk⟩
theorem eS.trans {S:Nat->Prop} {a b c:World} (h:eS S a b) (k:eS S b c):eS S a c:=
 ⟨k.os.trans h.os,k.tape.trans h.tape,k.output.trans h.output,Aq h.size k.size,fun i hi hS=>(k.block i (AP hi h.size) hS).trans (h.block i hi hS)⟩
theorem eS.mono {S T:Nat->Prop} {w w':World} (h:eS S w w') (hST:∀k,k<w.heap.size->S k->T k):eS T w w':=⟨h.os,h.tape,h.output,h.size,fun k hk hT=>h.block k hk fun hS=>hT (hST k hk hS)⟩
theorem eS.bc {S:Nat->Prop} (w:World) {b:Nat} (o:Obj) (hb:S b):eS S w.drew (World.bc w.drew b o):=⟨rfl,rfl,rfl,by simp[World.bc],fun k _ hS=>by
 show(w.drew.heap.setIfInBounds b o)[k]? =_
 have hne:¬b=k:=by rintro rfl;exact hS hb
 rw[B9,Aj hne]⟩
theorem eS.drew {S:Nat->Prop} {a w:World} (h:eS S a w):eS S a w.drew:=⟨h.os,h.tape,h.output,h.size,h.block⟩
theorem Pj (b:Nat) (w:World):(binOp BinOp.eql 147 (.map (some b)) (.map none)).run Tryz.prog w= .ok (.bool false) w:=by kernel_rfl
theorem Pl {w:World} {bs bv:Nat} {L:List ((Int×Int)×Int)} (hs:w.cell? ⟨bs,0,none⟩=some (.map (some bv))) (hm:aC w bv eH cN L) (a i n:Int) (hne:bs≠bv) (hd:fB ⟨a,i,n⟩=true) (hlt:(aE L (a,i)).getD 0<n):
  Calls Tryz.prog 111 #[.pointer (some ⟨bs,0,none⟩), .agg #[.int .i64 a, .int .i64 i], .int .i64 n] w fun e w'=>e= .returned (.bool true)/\eS (· =bv) w w'/\aC w' bv eH cN (cB L (a,i) n):=by
 have hlk:=Px hm a i;have hc:=fun w=>Pm a i n w
 rw[hd]at hc;have hbv:bv<w.heap.size:=by
  obtain⟨es,clk,h,_⟩:=hm.at_;exact(Ad.1 h).1
 have hbs:bs<w.heap.size:=by
  unfold World.cell? at hs
  cases h:w.heap[bs]? with
  |none=>simp[h]at hs
  |some o=>exact(Ad.1 h).1
 have hle:decide (n<=(aE L (a,i)).getD 0)=false:=Bq (by omega);have hmn:=fun w=>Pj bv w
 go_enter Tryz.func111,Tryz.ntmps111
 go_wp2_with fail
 have hq:Below w.heap.size w (w.alloc (.cells #[.int .i64 a, .int .i64 i] 33)).drew:=((Below.refl w.heap.size w).alloc (Ai _) _).drew;have hsz:(w.alloc (.cells #[.int .i64 a, .int .i64 i] 33)).drew.heap.size=w.heap.size+1:=by simp
 have hn0:(w.alloc (.cells #[.int .i64 a, .int .i64 i] 33)).drew.cell? ⟨w.heap.size,0,none⟩=some (.int .i64 a):=by simp
 have hn1:(w.alloc (.cells #[.int .i64 a, .int .i64 i] 33)).drew.cell? ⟨w.heap.size,1,none⟩=some (.int .i64 i):=by simp
 go_region_with (go_at_call 147;refine(hc _).mono ?_;rintro e w1 ⟨rfl,hb⟩;have hs1:w1.cell? ⟨bs,0,none⟩=some (.map (some bv)):=(hb.cell (by rw[hsz];show bs<_;omega)).trans ((hq.cell hbs).trans hs);have hl1:=hlk w1 ((hb.block bv (by rw[hsz];omega)).trans (hq.block bv hbv));have hb0:=(hb.cell (p:=⟨w.heap.size,0,none⟩) (by rw[hsz];show w.heap.size<_;omega)).trans hn0;have hb1:=(hb.cell (p:=⟨w.heap.size,1,none⟩) (by rw[hsz];show w.heap.size<_;omega)).trans hn1)
 all_goals (have hmw:aC w1.drew bv eH cN L:=hm.same ((hb.block bv (by rw[hsz];omega)).trans (hq.block bv hbv)))
 all_goals (obtain⟨es,clk,hu,hmu⟩:=hmw.update Gq Tryz.underlying147 (a,i) n)
 all_goals (rw[show eH (a,i)= .agg #[.int .i64 a, .int .i64 i]from rfl,show cN n= .int .i64 n from rfl]at hu)
 all_goals (go_wp2_with fail)
 all_goals (go_region_with fail)
 all_goals (go_wp2)
 all_goals (go_ret)
 all_goals (exact⟨rfl,((lK hq).trans (lK hb).drew).trans (eS.bc _ _ rfl),hmu⟩)
end Go.Proofs
namespace Go.Proofs
open Go Go.Am Go.RowKit Go.Sy
def spine:Nat->Code->Code
 |0,c=>c
 |n+1, .seq _ b=>spine n b
 |_,c=>c
def FZ:aM:={Y:=Unit,pre:=fun _=>True,args:=fun _=>[],res:=fun _=> .bool true}
theorem I8 {P:Program} {f:FuncId} {fn:Func} {l:List Item} {R:Ending->World->Prop} {a:Act} {w:World} {v:Value} (hr:(results fn a.tmps).run P w= .ok v w) (hd:a.defers=[]) (hR:R (.returned v) w):CQ P f fn l R .ret a w:=⟨hd,v,hr,hR⟩
theorem fJ.mono {P:Program} {f:FuncId} {l:List Item} {a:Act} {w:World} {R R':Ending->World->Prop} (h:fJ P f l a w R) (hr:∀e w',R e w'->R' e w'):fJ P f l a w R':=fun cs=>by
 obtain⟨e,w',fr,h1,h2⟩:=h cs;exact⟨e,w',fr,hr _ _ h1,h2⟩
theorem YU [Inhabited aL] (hdr:¬(default:aL).dr) {f:FuncId} (ha:∀w,Calls Tryz.prog f #[] w fun e w'=>e= .returned (.bool true)/\Below w.heap.size w w'):CO f FZ:=kk bA.ok (by
 rintro y - w args hold ⟨h1,h2⟩;match args,h1 with
 |[],_=>
 refine(ha w).mono ?_;rintro e w' ⟨rfl,hb⟩;exact⟨_,rfl, .inr (.bool true),hb,fun h=>(hdr h).elim⟩)
end Go.Proofs
