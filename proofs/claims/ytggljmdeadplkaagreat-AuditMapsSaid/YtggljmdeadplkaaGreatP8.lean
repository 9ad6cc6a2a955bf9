/- Part 8: an evaluator, proved sound, and its use at this seat; no condition. -/
import Derived.WalkKit
import Derived.Deep.RegionWith
import Derived.Test.YtggljmdeadplkaaGreatP3
import Derived.Test.YtggljmdeadplkaaGreatP4
import Derived.Test.YtggljmdeadplkaaGreatP6
import Derived.Test.YtggljmdeadplkaaGreatP7
set_option linter.unusedSimpArgs false
set_option linter.unusedVariables false
set_option linter.unusedSectionVars false
set_option linter.deprecated false
set_option maxRecDepth 100000
set_option maxHeartbeats 4000000
namespace Go.Proofs
open Go Go.Am Go.RowKit Go.Sy
section
variable [Inhabited aI]
def mK (x y:ae):Bool:=bR x.dot y.dot
def kE (l:List ae) (e:ae):Nat:=c8 mK l e
def ff (l:List ae) (e:ae):List ae:=l.take (kE l e)++e::l.drop (kE l e)
def GS:aQ:={Y:=List ae×ae,pre:=fun y=>y.1.length<=50000,args:=fun y=>[eM y.1, .agg y.2.enc],res:=fun y=>eM (ff y.1 y.2)}
def P6 (y:List ae×ae):aK:={α:=Nat,ok:=fun k=>k<=kE y.1 y.2,μ:=fun k=>y.1.length - k,bn:=[3],aU:=fun k=>[(0,eM y.1),(5,i64 k)],bP:=fun _=>[]}
def dw (m:bB) (e:ae):bB×Bool×Int:=
 if eS e=false then(m,false,1)else if ct m.ctx e.dot=true then(m,false,0)else if getM m.ctx e.dot.dev e.dot.inc+1≠e.dot.seq then(m,false,6)else if 2048<=m.kept.length then(m,false,9)
 else(⟨fB m.ctx e.dot.dev e.dot.inc e.dot.seq,ff m.kept e,de bR (m.dead++e.over)⟩,true,0)
structure iK (m:bB):Prop where
 ctx:m.ctx.length<=100000
 seq:∀x∈m.ctx,0<=x.seq/\x.seq<=4294967296
 kept:m.kept.length<=50000
 dead:m.dead.length<=100000
theorem zL {l:List ak} (h:∀x∈l,0<=x.seq/\x.seq<=4294967296) (a i:Int):0<=getM l a i/\getM l a i<=4294967296:=by
 unfold getM
 cases e:l.find? (fun x=>eQ x a i)with
 |none=>simp
 |some x=>exact h x (Eu e)
def FL:aQ:={Y:=bB×ae,pre:=fun y=>iK y.1/\jw y.2/\y.2.over.length<=100000,args:=fun y=>[.agg y.1.enc, .agg y.2.enc],res:=fun y=> .bj [.agg (dw y.1 y.2).1.enc, .bool (dw y.1 y.2).2.1,i64 (dw y.1 y.2).2.2]}
theorem Ox:CO pw GS:=bZ (cfg:=fun y=>cC yg (cX pw 2 (P6 y))) bJ (fun _=>rfl) (fun _=>Fj) (n:=600) (by
 rintro⟨l,e⟩ (hl:l.length<=50000)
 (conv=>whnf)
 refine⟨⟨(0:Nat),Ax _,?_⟩,?_⟩
 . repeat' (first|exact trivial|exact rfl|((conv=>whnf);first|(apply aE<;>intro)|apply And.intro))
 intro (k:Nat) hk;have hk:k<=c8 mK l e:=hk;have hkp:=ud (less:=mK) l e;have hkl:k<=l.length:=by omega
 have ap:∀n:Nat,n<=60000->(Nat.ble (n*176) 16777216&&Nat.ble n 16777216)=true:=fun n h=>by
   rw[Ad,AY,AY];omega
 (conv=>whnf)
 refine ah.2 ⟨fun hlt=> ?ga,fun hge=> ?gb⟩
 case' ga=>
   have hlt':k<l.length:=cN hlt
   (conv=>whnf)
   refine aA.2 ⟨_,ee hlt',?_⟩
   (conv=>whnf)
   refine⟨(l[k].dot,e.dot),?_⟩
   repeat ((conv=>whnf);first|refine⟨rfl,?_⟩|refine⟨trivial,?_⟩)
   (conv=>whnf)
   refine ah.2 ⟨fun h=> ?gc,fun h=> ?gd⟩
   case gc=>
     have h:mK l[k] e=true:=h
     (conv=>whnf)
     refine aq.2 ⟨dg k (by omega),?_⟩
     (conv=>whnf)
     refine⟨(k+1:Nat),CF hk hlt' h,by show l.length - (k+1)<l.length - k;omega,?_⟩
     repeat' (first|exact trivial|exact rfl|((conv=>whnf);first|(apply aE<;>intro)|apply And.intro))
   case' gd=>
     have h:mK l[k] e=false:=h;have hkk:k=c8 mK l e:=CG hk hlt' h
 case' gb=>
   have hge':l.length<=k:=gN hge;have hkk:k=c8 mK l e:=by omega
 all_goals
   repeat (first|((conv=>whnf);refine⟨fun _=>rfl,?_⟩)|((conv=>whnf);refine⟨fun _=>⟨rfl,rfl⟩,?_⟩)|((conv=>whnf);refine⟨e,rfl,?_⟩)|((conv=>whnf);refine⟨(_:List ae),rfl,?_⟩)|((conv=>whnf);refine aq.2 ⟨by(show Nat.ble k l.length=true;rw[AY];exact hkl),?_⟩)|((conv=>whnf);refine aq.2 ⟨ap _ (by simp;omega),?_⟩))
   (conv=>whnf)
   refine⟨?_,?_⟩
   . show SV.aH ae _ ae.enc=SV.aH ae (ff l e) ae.enc
     unfold ff kE;rw[<-hkk];simp
   . repeat' (first|exact trivial|exact rfl|((conv=>whnf);first|(apply aE<;>intro)|apply And.intro)))
noncomputable def xX (f:FuncId):Option aQ:=bif Nat.beq f pw then some GS else yg f
theorem Fk:∀g C,xX g=some C->CO g C:=bU Ox Fj
theorem MZ:CO Hm FL:=bZ (cfg:=fun y=>cC xX (cM y)) bJ (fun _=>rfl) (fun _=>Fk) (n:=600) (by
 rintro⟨⟨c,k,d⟩,e⟩ ⟨⟨(hc:c.length<=100000),(hs:∀x∈c,0<=x.seq/\x.seq<=4294967296),(hk:k.length<=50000),(hd:d.length<=100000)⟩,(hse:jw e),(ho:e.over.length<=100000)⟩;have hr:=zL hs e.dot.dev e.dot.inc
 (conv=>whnf)
 refine⟨e,?_⟩
 repeat ((conv=>whnf);first|refine⟨rfl,?_⟩|refine⟨trivial,?_⟩)
 refine⟨hse,?_⟩
 (conv=>whnf)
 refine aE (fun h1=>?_) fun h1=>?_
 . have h1:eS e=false:=by simpa using h1
   have hA:dw ⟨c,k,d⟩ e=(⟨c,k,d⟩,false,1):=by unfold dw;rw[An h1]
   repeat' (first|exact trivial|(with_reducible exact rfl)|((conv=>whnf);first|(apply aE<;>intro)|apply And.intro))
   all_goals ((conv=>whnf);rw[hA])
 have h1:eS e=true:=by simpa using h1
 (conv=>whnf)
 refine⟨(c,e.dot),?_⟩
 repeat ((conv=>whnf);first|refine⟨rfl,?_⟩|refine⟨trivial,?_⟩)
 refine⟨hc,?_⟩
 (conv=>whnf)
 refine aE (fun h2=>?_) fun h2=>?_
 . have h2:ct c e.dot=true:=h2;have hA:dw ⟨c,k,d⟩ e=(⟨c,k,d⟩,false,0):=by unfold dw;rw[Ai (by simp[h1]),An h2]
   repeat' (first|exact trivial|(with_reducible exact rfl)|((conv=>whnf);first|(apply aE<;>intro)|apply And.intro))
   all_goals ((conv=>whnf);rw[hA])
 have h2:ct c e.dot=false:=h2
 (conv=>whnf)
 refine⟨(c,e.dot.dev,e.dot.inc),?_⟩
 repeat ((conv=>whnf);first|refine⟨rfl,?_⟩|refine⟨trivial,?_⟩)
 refine⟨hc,?_⟩
 (conv=>whnf)
 refine aq.2 ⟨by show bw .i64 (getM c e.dot.dev e.dot.inc+1)=true;rw[gj];omega,?_⟩
 (conv=>whnf)
 refine aE (fun h3=>?_) fun h3=>?_
 . have h3:getM c e.dot.dev e.dot.inc+1≠e.dot.seq:=by
    have h3:(!((getM c e.dot.dev e.dot.inc+1)==e.dot.seq))=true:=h3;simpa using h3
   have hA:dw ⟨c,k,d⟩ e=(⟨c,k,d⟩,false,6):=by unfold dw;rw[Ai (by simp[h1]),Ai (by simp[h2]),An h3]
   repeat' (first|exact trivial|(with_reducible exact rfl)|((conv=>whnf);first|(apply aE<;>intro)|apply And.intro))
   all_goals ((conv=>whnf);rw[hA])
 have h3:¬getM c e.dot.dev e.dot.inc+1≠e.dot.seq:=by
   have h3:(!((getM c e.dot.dev e.dot.inc+1)==e.dot.seq))=false:=h3;simpa using h3
 (conv=>whnf)
 refine aE (fun h4=>?_) fun h4=>?_
 . have h4:2048<=k.length:=by
    have h4:bA 2048 (Int.ofNat k.length)=true:=h4;rw[eI,Ae,Aa]at h4;omega
   have hA:dw ⟨c,k,d⟩ e=(⟨c,k,d⟩,false,9):=by unfold dw;rw[Ai (by simp[h1]),Ai (by simp[h2]),Ai h3,An h4]
   repeat' (first|exact trivial|(with_reducible exact rfl)|((conv=>whnf);first|(apply aE<;>intro)|apply And.intro))
   all_goals ((conv=>whnf);rw[hA])
 have h4:¬2048<=k.length:=by
   have h4:bA 2048 (Int.ofNat k.length)=false:=h4;rw[eI,Ag,Aa]at h4;omega
 have hA:dw ⟨c,k,d⟩ e=(⟨fB c e.dot.dev e.dot.inc e.dot.seq,ff k e,de bR (d++e.over)⟩,true,0):=by unfold dw;rw[Ai (by simp[h1]),Ai (by simp[h2]),Ai h3,Ai h4]
 have ap:∀n:Nat,n<=300000->(Nat.ble (n*24) 16777216&&Nat.ble n 16777216)=true:=fun n h=>by
   rw[Ad,AY,AY];omega
 (conv=>whnf)
 refine⟨(c,e.dot.dev,e.dot.inc,e.dot.seq),?_⟩
 repeat ((conv=>whnf);first|refine⟨rfl,?_⟩|refine⟨trivial,?_⟩)
 refine⟨hc,?_⟩
 (conv=>whnf)
 refine⟨(k,e),?_⟩
 repeat ((conv=>whnf);first|refine⟨rfl,?_⟩|refine⟨trivial,?_⟩)
 refine⟨hk,?_⟩
 (conv=>whnf)
 refine⟨fun _=>⟨rfl,rfl⟩,?_⟩
 (conv=>whnf)
 refine⟨d,rfl,?_⟩
 (conv=>whnf)
 refine aq.2 ⟨ap _ (by simp;omega),?_⟩
 (conv=>whnf)
 refine⟨fun _=>⟨rfl,rfl⟩,?_⟩
 (conv=>whnf)
 refine⟨e.over,rfl,?_⟩
 (conv=>whnf)
 refine aq.2 ⟨ap _ (by simp;omega),?_⟩
 (conv=>whnf)
 refine⟨[]++d++e.over,?_⟩
 repeat ((conv=>whnf);first|refine⟨rfl,?_⟩|refine⟨trivial,?_⟩)
 refine⟨by show(([]:List ak)++d++e.over).length<=300000;simp;omega,?_⟩
 repeat' (first|exact trivial|(with_reducible exact rfl)|((conv=>whnf);first|(apply aE<;>intro)|apply And.intro))
 all_goals ((conv=>whnf);rw[hA])
 all_goals (rw[BE];rfl))
end
section
variable [Inhabited aI]
noncomputable def xY (f:FuncId):Option aQ:=bif Nat.beq f Hm then some FL else xX f
theorem Fl:∀g C,xY g=some C->CO g C:=bU MZ Fk
def kN:bB:=⟨[],[],[]⟩
def foldM (l:List ae):bB:=l.foldl (fun m e=>(dw m e).1) kN
def qf (l:List ae):Prop:=l.length<=100/\ ∀e∈l,gO e=true
theorem re {e:ae} (h:gO e=true):jw e/\e.over.length<=100:=by
 simp only[gO,Ad,eI,Ae,Aa]at h;exact⟨⟨by omega,by omega⟩,by omega⟩
theorem FZ (l:List ak) (a i n:Int):fB l a i n=bif (l.foldl (eO a i n) ([],false)).2 then(l.foldl (eO a i n) ([],false)).1 else(l.foldl (eO a i n) ([],false)).1++[⟨a,i,n⟩]:=rfl
theorem Jj {a i n:Int} {s:List ak×Bool} {x:ak} {P:ak->Prop} (hs:∀z∈s.1,P z) (hx:P x) (hn:P ⟨a,i,n⟩):∀z∈(eO a i n s x).1,P z:=by
 intro z hz;unfold eO at hz
 cases h1:(!s.2&& !kh x a i)<;>cases h2:eQ x a i<;>simp only[h1,h2,Bv,AQ,A6,BQ]at hz
 . rcases hz with hz|rfl
   . exact hs z hz
   . exact hx
 . exact hs z hz
 . rcases hz with(hz|rfl)|rfl
   . exact hs z hz
   . exact hn
   . exact hx
 . rcases hz with hz|rfl
   . exact hs z hz
   . exact hn
theorem Mz {l:List ak} {a i n:Int} {P:ak->Prop} (hl:∀z∈l,P z) (hn:P ⟨a,i,n⟩):∀z∈fB l a i n,P z:=by
 have key:∀(l:List ak) (s:List ak×Bool),(∀z∈l,P z)->(∀z∈s.1,P z)->∀z∈(l.foldl (eO a i n) s).1,P z:=by
   intro l;induction l with
   |nil=>intro s _ hs;exact hs
   |cons x l ih=>intro s hl hs;exact ih _ (fun z hz=>hl z (Aw _ hz)) (Jj hs (hl x Ap) hn)
 intro z hz;rw[FZ]at hz;have h1:=key l ([],false) hl (fun z hz=>by cases hz)
 cases h:(l.foldl (eO a i n) ([],false)).2
 . rw[h]at hz;simp only[AQ,A6,BQ]at hz;rcases hz with hz|rfl
   . exact h1 z hz
   . exact hn
 . rw[h]at hz;exact h1 z hz
theorem My (l:List ak) (a i n:Int):(fB l a i n).length<=l.length+1:=by
 have key:∀(l:List ak) (s:List ak×Bool),(l.foldl (eO a i n) s).1.length+(bif (l.foldl (eO a i n) s).2 then 0 else 1)<=s.1.length+(bif s.2 then 0 else 1)+l.length:=by
  intro l;induction l with
  |nil=>intro s;simp
  | cons x l ih=>
   intro s;have h1:=ih (eO a i n s x);have h2:(eO a i n s x).1.length+(bif (eO a i n s x).2 then 0 else 1)<=s.1.length+(bif s.2 then 0 else 1)+1:=by
    unfold eO
    cases hs:s.2<;>cases kh x a i<;>cases eQ x a i<;>simp[hs]<;>omega
   simp only[Bw,AX];omega
 have h1:=key l ([],false);rw[FZ]
 cases h:(l.foldl (eO a i n) ([],false)).2<;>rw[h]at h1<;>simp at h1⊢ <;>omega
structure eD (m:bB) (k:Nat):Prop where
 ctx:m.ctx.length<=k
 seq:∀x∈m.ctx,eB x=true
 kept:m.kept.length<=k
 dead:m.dead.length<=100*k
theorem Kx {x:ak} (h:eB x=true):0<=x.seq/\x.seq<=4294967296:=by
 simp only[eB,Ad,eI,Ae]at h;omega
theorem eD.ok {m:bB} {k:Nat} (h:eD m k) (hk:k<=1000):iK m:=⟨by have:=h.ctx;omega,fun x hx=>Kx (h.seq x hx),by have:=h.kept;omega,by have:=h.dead;omega⟩
theorem ti {e:ae} (h:eS e=true):eB e.dot=true:=by
 simp only[eS,Ad]at h;exact h.1.1.1.1
theorem EY (l:List ae) (e:ae):(ff l e).length=l.length+1:=by
 unfold ff;have:=ud (less:=mK) l e;simp[kE];omega
theorem I6 {m:bB} {e:ae} {k:Nat} (h:eD m k) (he:e.over.length<=100):eD (dw m e).1 (k+1):=by
 have same:eD m (k+1):=⟨by have:=h.ctx;omega,h.seq,by have:=h.kept;omega,by have:=h.dead;omega⟩;unfold dw;split
 . exact same
 . rename_i h1;have h1:eS e=true:=by simpa using h1
   split
   . exact same
   . split
     . exact same
     . split
       . exact same
       . refine⟨?_,Mz h.seq (ti h1),?_,?_⟩
         . have:=My m.ctx e.dot.dev e.dot.inc e.dot.seq;have:=h.ctx;show(fB m.ctx e.dot.dev e.dot.inc e.dot.seq).length<=_
           omega
         . show(ff m.kept e).length<=_
           rw[EY];have:=h.kept;omega
         . show(de bR (m.dead++e.over)).length<=_
           have h2:=tn (less:=bR) (m.dead++e.over) [];unfold de;have:=h.dead;simp only[Bc,Bu,AG]at h2;omega
theorem pI {l:List ae} (hl:∀e∈l,gO e=true):∀x,x<=l.length->eD (foldM (l.take x)) x
 |0,_=>⟨by simp[foldM,kN],by simp[foldM,kN],by simp[foldM,kN],by simp[foldM,kN]⟩
 |x+1,h=>by
  have hx:x<l.length:=h;have h1:=pI hl x (by omega);have h2:foldM (l.take (x+1))=(dw (foldM (l.take x)) l[x]).1:=pG _ _ hx;rw[h2];exact I6 h1 (re (hl _ (Au hx))).2
def O1:aQ:={Y:=List ae,pre:=qf,args:=fun y=>[eM y],res:=fun y=> .agg (foldM y).enc}
def OS (y:List ae):aK:={α:=Nat,ok:=fun x=>x<=y.length,μ:=fun x=>y.length - x,bn:=[2,3],aU:=fun x=>[(0,eM y),(4,i64 x)],bP:=fun x=>[(1, .cells (foldM (y.take x)).enc P0)]}
theorem Of:CO Hr O1:=bZ (cfg:=fun y=>cC xY (cX Hr 3 (OS y))) bJ (fun _=>rfl) (fun _=>Fl) (n:=600) (by
 rintro(l:List ae) ⟨(hl:l.length<=100),(hlt:∀e∈l,gO e=true)⟩
 (conv=>whnf)
 refine⟨⟨(0:Nat),Ax _,?_⟩,?_⟩
 . repeat' (first|exact trivial|(with_reducible exact rfl)|((conv=>whnf);first|(apply aE<;>intro)|apply And.intro))
   all_goals exact rfl
 intro (x:Nat) hx;have hx:x<=l.length:=hx
 (conv=>whnf)
 refine aE (fun hlt1=>?_) fun hge=>?_
 . have hlt':x<l.length:=cN hlt1;have hf:foldM (l.take (x+1))=(dw (foldM (l.take x)) l[x]).1:=pG _ _ hlt';have hb:=pI hlt x hx;have hsm:=re (hlt _ (Au hlt'))
   (conv=>whnf)
   refine aA.2 ⟨_,ee hlt',?_⟩
   (conv=>whnf)
   refine⟨(foldM (l.take x),l[x]),?_⟩
   repeat ((conv=>whnf);first|refine⟨rfl,?_⟩|refine⟨trivial,?_⟩)
   refine⟨⟨hb.ok (by omega),hsm.1,by have:=hsm.2;show l[x].over.length<=100000;omega⟩,?_⟩
   (conv=>whnf)
   refine aq.2 ⟨dg x (by omega),?_⟩
   (conv=>whnf)
   refine⟨(x+1:Nat),hlt',by show l.length - (x+1)<l.length - x;omega,?_⟩
   repeat' (first|exact trivial|(with_reducible exact rfl)|((conv=>whnf);first|(apply aE<;>intro)|apply And.intro))
   all_goals first|exact rfl|(rw[hf];exact rfl)
 . have hge':l.length<=x:=gN hge;have e:l.take x=l:=Av hge'
   repeat' (first|exact trivial|(with_reducible exact rfl)|((conv=>whnf);first|(apply aE<;>intro)|apply And.intro))
   all_goals first|exact rfl|(rw[e];done)|(rw[e];exact rfl))
end
section
variable [Inhabited aI]
def vl:ae:=⟨⟨0,0,0⟩,⟨0,0,0⟩,0,uh,⟨[],false,false,false,false,0,0,0⟩,[]⟩
noncomputable def GJ (f:FuncId):Option aQ:=xY f
theorem LM:∀g C,GJ g=some C->CO g C:=Fl
noncomputable def GK (f:FuncId):Option aQ:=GJ f
theorem LN:∀g C,GK g=some C->CO g C:=LM
noncomputable def GL (f:FuncId):Option aQ:=GK f
theorem LO:∀g C,GL g=some C->CO g C:=LN
end
end Go.Proofs
namespace Go.Proofs
open Go Go.Am Go.RowKit Go.Sy Go.Gm
section
section
variable {K V:Type} [DecidableEq K]
theorem bI {L:List (K×V)} {k:K}:az L k=none↔k∉L.map (·.1):=by
 unfold az;rw[EA,D7];constructor
 . rintro h hm;obtain⟨x,hx,rfl⟩:=Ar.1 hm;exact h x hx (by simp)
 . rintro h x hx he;exact h (Ar.2 ⟨x,hx,(Bo he).symm⟩)
theorem jJ {L:List (K×V)} {k:K} {v:V} (h:az L k=some v):(k,v)∈L:=by
 unfold az at h;obtain⟨x,hx,rfl⟩:=AJ.1 h;have h1:=List.find?_some hx;have h2:=Eu hx;have:k=x.1:=Bo h1;subst this;exact h2
theorem xD {k:K} {u v:V}:∀{L:List (K×V)},(L.map (·.1)).Nodup->(k,u)∈L->(k,v)∈L->u=v
 |[],_,h,_=>by cases h
 |y::L,hn,h1,h2=>by
  rw[AZ,Dj]at hn;rcases Al.1 h1 with h1|h1<;>rcases Al.1 h2 with h2|h2
  . rw[<-h1,By]at h2;exact h2.2.symm
  . exact absurd (Ar.2 ⟨_,h2,by rw[<-h1]⟩) hn.1
  . exact absurd (Ar.2 ⟨_,h1,by rw[<-h2]⟩) hn.1
  . exact xD hn.2 h1 h2
theorem MH {L:List (K×V)} {k:K} {v:V} (hn:(L.map (·.1)).Nodup):az L k=some v↔(k,v)∈L:=by
 refine⟨jJ,fun h=>?_⟩
 cases e:az L k with
 |none=>exact absurd (Ar.2 ⟨(k,v),h,rfl⟩) (bI.1 e)
 |some u=>rw[xD hn (jJ e) h]
theorem lK (k:K):az ([]:List (K×V)) k=none:=rfl
theorem rh (x:K×V) (L:List (K×V)) (k:K):az (x::L) k=if k=x.1 then some x.2 else az L k:=by
 unfold az;rw[Dk];by_cases h:k=x.1<;>simp[h]
theorem JC (L M:List (K×V)) (k:K):az (L++M) k=(az L k).or (az M k):=by
 unfold az;rw[Dn]
 cases List.find? (fun x:K×V=>decide (k=x.1)) L<;>simp
theorem gD (L:List (K×V)) (k k':K) (v:V):az (bN L k v) k'=if k'=k then some v else az L k':=by
 have key:∀L:List (K×V),az (L.map fun x=>if k=x.1 then(k,v)else x) k'=if k'=k then(if k∈L.map (·.1)then some v else none)else az L k':=by
   intro L;induction L with
   |nil=>simp[lK]
   | cons x L ih=>
     rw[AZ,rh,rh,ih,AZ];by_cases h1:k=x.1
     . by_cases h2:k'=k
       . rw[An h1];simp only[h2,Bq];rw[An (by rw[h1];exact Ap)]
       . have h3:¬k'=x.1:=fun e=>h2 (e.trans h1.symm)
         rw[An h1];simp only[Ai h2,Ai h3]
     . by_cases h2:k'=k
       . rw[Ai h1];have h3:¬k'=x.1:=fun e=>h1 (h2.symm.trans e)
         simp only[An h2,Ai h3,Al,h1,false_or]
       . rw[Ai h1];simp only[Ai h2]
 unfold bN;split
 . rename_i hm;rw[key,An hm]
 . rename_i hm;rw[JC,rh,lK];by_cases h2:k'=k
   . rw[An h2,An h2,h2,bI.2 hm];rfl
   . rw[Ai h2,Ai h2];cases az L k'<;>rfl
theorem wY (L:List (K×V)) (k k':K):az (cS L k) k'=if k'=k then none else az L k':=by
 unfold cS az;rw[List.find?_filter];by_cases h:k'=k
 . rw[An h,EA,D7];intro x hx;simp[h]
 . rw[Ai h];congr 2
   funext x
   by_cases e:k'=x.1
   . have:¬k=x.1:=fun e2=>h (e.trans e2.symm)
     simp[e,this]
   . simp[e]
theorem Jd {L:List (K×V)} {k:K} (h:az L k=none) (v:V):(bN L k v).length=L.length+1:=by
 unfold bN;rw[Ai (bI.1 h)];simp
theorem mem_keys {L:List (K×V)} {k:K}:k∈L.map (·.1)↔(az L k).isSome=true:=by
 rw[DI,EL,bI,Decidable.not_not]
end
abbrev DL:=List (ak×Int)
structure bC where
 kept:List (ak×(Value×ae))
 alive:List (bg×(Nat×DL))
 dead:DL
 vec:List ((Int×Int)×Int)
def nI (A:List (bg×(Nat×DL))) (nb:Nat) (k:bg) (d:ak):List (bg×(Nat×DL)):=
 match az A k with
 |none=>bN A k (nb,[(d,1)])
 |some x=>bN A k (x.1,bN x.2 d 1)
def lX (A:List (bg×(Nat×DL))) (k:bg) (d:ak):List (bg×(Nat×DL)):=
 match az A k with
 |none=>A
 |some x=>if cS x.2 d=[]then cS A k else bN A k (x.1,cS x.2 d)
def iN (G:bC) (d:ak):bC:={G with dead:=bN G.dead d 1,alive:=match az G.kept d with
 |some x=>if x.2.kind=1 then lX G.alive x.2.key d else G.alive
 |none=>G.alive}
def fI (G:bC) (e:ae) (v:Value):bC:={G with vec:=bN G.vec (e.dot.dev,e.dot.inc) e.dot.seq,kept:=bN G.kept e.dot (v,e)}
def gv (G:bC) (e:ae) (nb:Nat):bC:=if e.kind=1/\az G.dead e.dot=none then{G with alive:=nI G.alive nb e.key e.dot}else G
def jh (G:bC) (l:List ak):bC:=l.foldl iN G
def fQ (A:List (bg×(Nat×DL))) (k:bg) (d:ak):Prop:=∃x,az A k=some x/\(az x.2 d).isSome=true
def qj (A:List (bg×(Nat×DL))):Prop:=∀k x,az A k=some x->x.2≠[]
theorem KP {A:List (bg×(Nat×DL))} {nb:Nat} {k k':bg} {d d':ak}:fQ (nI A nb k d) k' d'↔fQ A k' d'\/(k'=k/\d'=d):=by
 unfold fQ nI
 cases e:az A k with
 |none=>
  simp only[gD];by_cases h:k'=k
  . subst h;by_cases h2:d'=d
    . subst h2;simp[e,lK,rh]
    . simp[e,lK,rh,h2]
  . simp[h]
 |some x=>
  simp only[gD];by_cases h:k'=k
  . subst h;by_cases h2:d'=d
    . subst h2;simp[gD]
    . simp[e,gD,h2]
  . simp[h]
theorem O9 {K V:Type} [DecidableEq K] (L:List (K×V)) (k:K) (v:V):bN L k v≠[]:=by
 intro e;have:=gD L k k v;rw[e,lK]at this;simp at this
theorem KK {A:List (bg×(Nat×DL))} {nb:Nat} {k:bg} {d:ak} (h:qj A):qj (nI A nb k d):=by
 intro k' x hx;unfold nI at hx;split at hx
 . rw[gD]at hx;split at hx
   . cases hx;simp
   . exact h k' x hx
 . rw[gD]at hx;split at hx
   . cases hx;exact O9 _ _ _
   . exact h k' x hx
theorem KO {A:List (bg×(Nat×DL))} {k k':bg} {d d':ak}:fQ (lX A k d) k' d'↔fQ A k' d'/\ ¬(k'=k/\d'=d):=by
 unfold fQ lX
 cases e:az A k with
 |none=>
  simp only;by_cases h:k'=k
  . subst h;simp[e]
  . simp[h]
 |some x=>
  have hdel:=wY x.2 d d';simp only;split
  . rename_i hnil;rw[wY];by_cases h:k'=k
    . subst h;simp only[Bq,e];rw[hnil]at hdel;by_cases h2:d'=d
      . simp[h2]
      . rw[Ai h2]at hdel;simp[h2,<-hdel,lK]
    . simp[h]
  . rw[gD];by_cases h:k'=k
    . subst h;simp only[Bq,e];by_cases h2:d'=d
      . subst h2;simp[hdel]
      . rw[Ai h2]at hdel;simp[h2,hdel]
    . simp[h]
theorem KJ {A:List (bg×(Nat×DL))} {k:bg} {d:ak} (h:qj A):qj (lX A k d):=by
 intro k' x hx;unfold lX at hx;split at hx
 . exact h k' x hx
 . split at hx
   . rw[wY]at hx;split at hx
     . cases hx
     . exact h k' x hx
   . rename_i hne;rw[gD]at hx;split at hx
     . cases hx;exact hne
     . exact h k' x hx
structure kp (kept:List (ak×(Value×ae))) (dead:ak->Prop) (A:List (bg×(Nat×DL))):Prop where
 al:∀k d,fQ A k d↔∃x,az kept d=some x/\x.2.kind=1/\x.2.key=k/\ ¬dead d
 full:qj A
theorem kp.kill {G:bC} {d:ak} (h:kp G.kept (fun x=>(az G.dead x).isSome=true) G.alive):kp (iN G d).kept (fun x=>(az (iN G d).dead x).isSome=true) (iN G d).alive:=by
 have hdead:∀x,(az (iN G d).dead x).isSome=true↔(az G.dead x).isSome=true\/x=d:=fun x=>by
   show(az (bN G.dead d 1) x).isSome=true↔_
   rw[gD];by_cases e:x=d<;>simp[e]
 refine⟨fun k d'=>?_,?_⟩
 . show fQ (match az G.kept d with|some x=>if x.2.kind=1 then lX G.alive x.2.key d else G.alive|none=>G.alive) k d'↔∃x,az G.kept d'=some x/\_
   simp only[hdead]
   cases e:az G.kept d with
   | none=>
     simp only[h.al];constructor
     . rintro⟨x,h1,h2,h3,h4⟩;exact⟨x,h1,h2,h3,fun hh=>hh.elim h4 fun e2=>by subst e2;rw[e]at h1;cases h1⟩
     . rintro⟨x,h1,h2,h3,h4⟩;exact⟨x,h1,h2,h3,fun hh=>h4 (.inl hh)⟩
   | some y=>
     simp only;split
     . rename_i hk;rw[KO,h.al];constructor
       . rintro⟨⟨x,h1,h2,h3,h4⟩,h5⟩;exact⟨x,h1,h2,h3,fun hh=>hh.elim h4 fun e2=>by subst e2;rw[e]at h1;cases h1;exact h5 ⟨h3.symm,rfl⟩⟩
       . rintro⟨x,h1,h2,h3,h4⟩;exact⟨⟨x,h1,h2,h3,fun hh=>h4 (.inl hh)⟩,fun hh=>h4 (.inr hh.2)⟩
     . rename_i hk;rw[h.al];constructor
       . rintro⟨x,h1,h2,h3,h4⟩;exact⟨x,h1,h2,h3,fun hh=>hh.elim h4 fun e2=>by subst e2;rw[e]at h1;cases h1;exact hk h2⟩
       . rintro⟨x,h1,h2,h3,h4⟩;exact⟨x,h1,h2,h3,fun hh=>h4 (.inl hh)⟩
 . show qj (match az G.kept d with|some x=>if x.2.kind=1 then lX G.alive x.2.key d else G.alive|none=>G.alive)
   split
   . split
     . exact KJ h.full
     . exact h.full
   . exact h.full
theorem kp.qO {l:List ak} {G:bC} (h:kp G.kept (fun x=>(az G.dead x).isSome=true) G.alive):kp (jh G l).kept (fun x=>(az (jh G l).dead x).isSome=true) (jh G l).alive:=by
 induction l generalizing G with
 |nil=>exact h
 |cons d l ih=>exact ih h.kill
theorem JV (l:List ak) (G:bC):(jh G l).kept=G.kept/\(jh G l).vec=G.vec:=by
 induction l generalizing G with
 |nil=>exact⟨rfl,rfl⟩
 |cons d l ih=>exact ih (iN G d)
theorem JU (l:List ak) (G:bC) (x:ak):(az (jh G l).dead x).isSome=true↔(az G.dead x).isSome=true\/x∈l:=by
 induction l generalizing G with
 |nil=>simp[jh]
 | cons d l ih=>
  have h:=ih (iN G d);have hd:(az (iN G d).dead x).isSome=true↔(az G.dead x).isSome=true\/x=d:=by
   show(az (bN G.dead d 1) x).isSome=true↔_
   rw[gD];by_cases e:x=d<;>simp[e]
  show(az (jh (iN G d) l).dead x).isSome=true↔_
  rw[h,hd,Al,or_assoc]
def kI (L:List ((Int×Int)×Int)) (a i:Int):Int:=(az L (a,i)).getD 0
structure dW (G:bC) (m:bB):Prop where
 vec:∀a i,kI G.vec a i=getM m.ctx a i
 kept:∀e:ae,e∈m.kept↔∃v,az G.kept e.dot=some (v,e)
 keys:∀d x,az G.kept d=some x->x.2.dot=d
 len:G.kept.length=m.kept.length
 sorted:m.kept.Pairwise fun x y=>bR x.dot y.dot=true
 ctx:∀e∈m.kept,ct m.ctx e.dot=true
 dead:∀d,(az G.dead d).isSome=true↔d∈m.dead
 HD:kp G.kept (fun x=>(az G.dead x).isSome=true) G.alive
theorem QL:dW ⟨[],[],[],[]⟩ kN:=by
 refine⟨fun _ _=>rfl,fun e=>?_,fun d x h=>(by cases h),rfl,List.Pairwise.nil,fun e h=>(by cases h),fun d=>?_,⟨fun k d=>?_,fun k x h=>(by cases h)⟩⟩
 . simp[kN,lK]
 . simp[kN,lK]
 . simp[fQ,lK]
theorem dH {x:ak} {a i:Int}:eQ x a i=true↔x.dev=a/\x.inc=i:=by
 unfold eQ;simp
theorem Gc {a i n a' i':Int} (h:¬(a'=a/\i'=i)):∀(l:List ak) (s:List ak×Bool),(l.foldl (eO a i n) s).1.find? (fun x=>eQ x a' i')=(s.1.find? fun x=>eQ x a' i').or (l.find? fun x=>eQ x a' i')
 |[],s=>by simp
 |x::l,s=>by
  have hn:eQ ⟨a,i,n⟩ a' i'=false:=AB.2 fun e=>h (by have:=dH.1 e;exact⟨this.1.symm,this.2.symm⟩)
  rw[Bw,Gc h l,Dk];have hx:eQ x a i=true->eQ x a' i'=false:=fun e=>AB.2 fun e2=>h (by have h1:=dH.1 e;have h2:=dH.1 e2;exact⟨h2.1.symm.trans h1.1,h2.2.symm.trans h1.2⟩)
  unfold eO
  cases e1:(!s.2&& !kh x a i)<;>cases e2:eQ x a i<;>simp only[Bv,AQ,Dn,Dk,D2,hn,Em]
  . cases e3:eQ x a' i'<;>simp
  . rw[hx e2]
  . cases e3:eQ x a' i'<;>simp
  . rw[hx e2]
theorem Gb {a i n:Int}:∀(l:List ak) (s:List ak×Bool),(s.1.find? fun x=>eQ x a i)=(if s.2=true then some ⟨a,i,n⟩else none)->((l.foldl (eO a i n) s).1.find? fun x=>eQ x a i)=if(l.foldl (eO a i n) s).2=true then some ⟨a,i,n⟩else none
 |[],s,h=>h
 |x::l,s,h=>by
  rw[Bw];refine Gb l _ ?_;have hn:eQ ⟨a,i,n⟩ a i=true:=dH.2 ⟨rfl,rfl⟩;unfold eO
  cases e0:s.2<;>cases e1:kh x a i<;>cases e2:eQ x a i<;>simp only[e0,Ao,AP,Bq]at h<;>simp only[Dq,BN,Dh,BA,A9,A4,Bv,AQ,e0,Bq,AP,Ao,Dn,h,Dk,hn,e2,D2,En,Option.some_or,Em]
theorem E3 (l:List ak) (a i n:Int):fB l a i n=bif (l.foldl (eO a i n) ([],false)).2 then(l.foldl (eO a i n) ([],false)).1 else(l.foldl (eO a i n) ([],false)).1++[⟨a,i,n⟩]:=rfl
theorem CY (l:List ak) (a i n a' i':Int):getM (fB l a i n) a' i'=if a'=a/\i'=i then n else getM l a' i':=by
 have hn:eQ ⟨a,i,n⟩ a i=true:=dH.2 ⟨rfl,rfl⟩;split
 . rename_i h;obtain⟨rfl,rfl⟩:=h;have h1:=Gb (a:=a') (i:=i') (n:=n) l ([],false) (by simp);unfold getM;rw[E3]
   cases e:(l.foldl (eO a' i' n) ([],false)).2
   . rw[e]at h1;simp only[AQ,Dn,h1,Ao,AP,En,Dk,hn]
   . rw[e]at h1;simp only[Bv,h1,Bq]
 . rename_i h;have h1:=Gc (n:=n) h l ([],false);have hn2:eQ ⟨a,i,n⟩ a' i'=false:=AB.2 fun e=>h (by have:=dH.1 e;exact⟨this.1.symm,this.2.symm⟩)
   unfold getM;rw[E3];simp only[D2,En]at h1
   cases e:(l.foldl (eO a i n) ([],false)).2
   . simp only[AQ,Dn,h1,Dk,hn2,D2,Em]
   . simp only[Bv,h1]
section
variable {α:Type} {less:α->α->Bool}
theorem L3 (l:List α) (e:α):l.take (c8 less l e)=l.takeWhile fun x=>less x e:=by
 unfold c8;conv=>lhs;rw[<-Ee (p:=fun x=>less x e) (l:=l)]
 rw[List.take_left'];simp
theorem LR (l:List α) (e:α):l.drop (c8 less l e)=l.dropWhile fun x=>less x e:=by
 unfold c8;conv=>lhs;arg 2;rw[<-Ee (p:=fun x=>less x e) (l:=l)]
 rw[List.drop_left'];simp
theorem zM (htr:∀x y z,less x y=true->less y z=true->less x z=true) {e:α}:∀{l:List α},l.Pairwise (fun x y=>less x y=true)->(∀x∈l,less x e=true\/less e x=true)->(l.take (c8 less l e)++e::l.drop (c8 less l e)).Pairwise fun x y=>less x y=true:=by
 intro l hl ht;rw[L3,LR];induction l with
 |nil=>simp
 |cons x l ih=>
  rw[Dl]at hl;rw[Bi,Dd];by_cases h:less x e=true
  . simp only[h,Bq,BO,Dl];refine⟨fun y hy=>?_,ih hl.2 fun y hy=>ht y (Aw _ hy)⟩;rcases A6.1 hy with hy|hy
    . exact hl.1 y (List.takeWhile_subset _ hy)
    . rcases Al.1 hy with rfl|hy
      . exact h
      . exact hl.1 y (List.dropWhile_subset _ hy)
  . simp only[h,AP,BE,Dl,Ao];have h1:less e x=true:=(ht x Ap).resolve_left h;refine⟨fun y hy=>?_,hl⟩;rcases Al.1 hy with rfl|hy
    . exact h1
    . exact htr _ _ _ h1 (hl.1 y hy)
theorem F1 (l:List α) (e x:α):x∈l.take (c8 less l e)++e::l.drop (c8 less l e)↔x∈l\/x=e:=by
 conv=>rhs;lhs;rw[<-Ds (c8 less l e) l]
 simp only[A6,Al];constructor
 . rintro(h|h|h)
   . exact .inl (.inl h)
   . exact .inr h
   . exact .inl (.inr h)
 . rintro((h|h)|h)
   . exact .inl h
   . exact .inr (.inr h)
   . exact .inr (.inl h)
theorem MQ [DecidableEq α] (l:List α) (e x:α):x∈eZ less l e↔x∈l\/x=e:=by
 unfold eZ;split
 . rename_i h;refine⟨.inl,fun hh=>hh.elim id fun hx=>?_⟩;subst hx;exact BV h
 . exact F1 l e x
theorem Lk [DecidableEq α] (l a:List α) (x:α):x∈l.foldl (eZ less) a↔x∈a\/x∈l:=by
 induction l generalizing a with
 |nil=>simp
 |cons y l ih=>rw[Bw,ih,MQ,Al,or_assoc]
theorem pH [DecidableEq α] (l:List α) (x:α):x∈de less l↔x∈l:=by
 unfold de;rw[Lk];simp
end
variable [Inhabited aI]
theorem dW.none {G:bC} {m:bB} (h:dW G m) {e:ae} (hh:ct m.ctx e.dot=false):az G.kept e.dot=none:=by
 cases he:az G.kept e.dot with
 |none=>rfl
 |some x=>
  have h1:=h.keys _ _ he;have h2:=(h.kept x.2).2 ⟨x.1,by rw[h1,he]⟩;have h3:=h.ctx _ h2;rw[h1,hh]at h3;cases h3
def oA (G:bC) (e:ae) (v:Value) (nb:Nat):bC:=jh (gv (fI G e v) e nb) e.over
theorem Cu (G:bC) (e:ae) (nb:Nat):(gv G e nb).kept=G.kept/\(gv G e nb).vec=G.vec/\(gv G e nb).dead=G.dead:=by
 unfold gv;split<;>exact⟨rfl,rfl,rfl⟩
theorem kp.take {G:bC} {e:ae} {v:Value} {nb:Nat} (h:kp G.kept (fun x=>(az G.dead x).isSome=true) G.alive) (hn:az G.kept e.dot=none):
   kp (gv (fI G e v) e nb).kept (fun x=>(az (gv (fI G e v) e nb).dead x).isSome=true) (gv (fI G e v) e nb).alive:=by
 obtain⟨k1,k2,k3⟩:=Cu (fI G e v) e nb;rw[k1,k3];have hk:∀d,az (fI G e v).kept d=if d=e.dot then some (v,e)else az G.kept d:=fun d=>gD _ _ _ _
 have hno:∀k,¬fQ G.alive k e.dot:=fun k hh=>by
   obtain⟨x,hx,_⟩:=(h.al k e.dot).1 hh;rw[hn]at hx;cases hx
 show kp _ (fun x=>(az G.dead x).isSome=true) _
 unfold gv;split
 . rename_i hc;have hd:¬(az G.dead e.dot).isSome=true:=by
     have:=hc.2;rw[show(fI G e v).dead=G.dead from rfl]at this;rw[this];simp
   refine⟨fun k d=>?_,KK h.full⟩;show fQ (nI G.alive nb e.key e.dot) k d↔_
   rw[KP,hk];by_cases hd2:d=e.dot
   . subst hd2;simp only[Bq];constructor
     . rintro(hh|⟨hh,_⟩)
       . exact absurd hh (hno k)
       . exact⟨_,rfl,hc.1,hh.symm,hd⟩
     . rintro⟨x,hx,_,h3,_⟩
       cases hx;exact .inr ⟨h3.symm,trivial⟩
   . simp only[Ai hd2,hd2,and_false,DP];exact h.al k d
 . rename_i hc;refine⟨fun k d=>?_,h.full⟩;show fQ G.alive k d↔_
   rw[hk];by_cases hd2:d=e.dot
   . subst hd2;simp only[Bq];refine⟨fun hh=>absurd hh (hno k),?_⟩;rintro⟨x,hx,h2,_,h4⟩
     cases hx;refine absurd ⟨h2,?_⟩ hc;show az G.dead e.dot=none
     cases e5:az G.dead e.dot with
     |none=>rfl
     |some z=>rw[e5]at h4;simp at h4
   . simp only[Ai hd2];exact h.al k d
theorem dW.apply {G:bC} {m:bB} {e:ae} (h:dW G m) (v:Value) (nb:Nat) (hr:eS e=true) (hh:ct m.ctx e.dot=false) (hs:getM m.ctx e.dot.dev e.dot.inc+1=e.dot.seq) (hk:¬2048<=m.kept.length):
   dW (oA G e v nb) (dw m e).1/\(dw m e).2=(true,0):=by
 have hA:dw m e=(⟨fB m.ctx e.dot.dev e.dot.inc e.dot.seq,ff m.kept e,de bR (m.dead++e.over)⟩,true,0):=by
   unfold dw;rw[Ai (by simp[hr]),Ai (by simp[hh]),Ai (by simp[hs]),Ai hk]
 rw[hA];refine⟨?_,rfl⟩;have hn:=h.none hh;obtain⟨k1,k2,k3⟩:=Cu (fI G e v) e nb;obtain⟨q1,q2⟩:=JV e.over (gv (fI G e v) e nb);have hkept:(oA G e v nb).kept=bN G.kept e.dot (v,e):=q1.trans k1;have hvec:(oA G e v nb).vec=bN G.vec (e.dot.dev,e.dot.inc) e.dot.seq:=q2.trans k2;have hput:∀x,x∈ff m.kept e↔x∈m.kept\/x=e:=fun x=>F1 m.kept e x
 have hdot:∀x∈m.kept,x.dot≠e.dot:=fun x hx he=>by
   have:=h.ctx x hx;rw[he,hh]at this;cases this
 refine⟨fun a i=>?_,fun x=>?_,fun d x hx=>?_,?_,?_,fun x hx=>?_,fun d=>?_,?_⟩
 . show kI (oA G e v nb).vec a i=getM (fB m.ctx e.dot.dev e.dot.inc e.dot.seq) a i
   rw[hvec,CY];unfold kI;rw[gD];by_cases hc:a=e.dot.dev/\i=e.dot.inc
   . rw[An hc,An (by rw[hc.1,hc.2])];rfl
   . rw[Ai hc,Ai (by intro he;rw[By]at he;exact hc he)];exact h.vec a i
 . show x∈ff m.kept e↔_
   rw[hput,hkept];simp only[gD];constructor
   . rintro(hx|rfl)
     . rw[Ai (hdot x hx)];exact(h.kept x).1 hx
     . exact⟨v,by simp⟩
   . rintro⟨u,hu⟩;split at hu
     . cases hu;exact .inr rfl
     . exact .inl ((h.kept x).2 ⟨u,hu⟩)
 . rw[hkept,gD]at hx;split at hx
   . rename_i he;cases hx;exact he.symm
   . exact h.keys d x hx
 . show(oA G e v nb).kept.length=(ff m.kept e).length
   rw[hkept,Jd hn,EY,h.len]
 . show(ff m.kept e).Pairwise _
   refine zM (less:=mK) (fun x y z=>sQ) h.sorted fun x hx=>?_
   rcases vQ x.dot e.dot with h1|h1|h1
   . exact .inl h1
   . exact absurd h1 (hdot x hx)
   . exact .inr h1
 . have hx:x∈ff m.kept e:=hx;show ct (fB m.ctx e.dot.dev e.dot.inc e.dot.seq) x.dot=true
   unfold ct;rw[CY];rcases(hput x).1 hx with hx|rfl
   . have h1:=h.ctx x hx;unfold ct at h1;rw[Ad]at h1⊢;refine⟨h1.1,?_⟩;have h2:=h1.2;rw[eI,Ae]at h2⊢;split
     . rename_i hc;rw[hc.1,hc.2]at h2;omega
     . exact h2
   . rw[ti hr,An ⟨rfl,rfl⟩,eI];simp
 . show(az (jh (gv (fI G e v) e nb) e.over).dead d).isSome=true↔d∈de bR (m.dead++e.over)
   rw[JU,pH,A6,k3];show(az G.dead d).isSome=true\/_↔_
   rw[h.dead]
 . exact(h.HD.take hn).qO
end
theorem xF {Fz:Nat->Option AO} {n:Nat} (l:List Int):aL Fz (.agg (l.map i64)) (eY n (.agg (l.map fun z=>Value.int .i64 z).toArray)):=by
 unfold eY;refine .agg (by simp) fun i c v hc hv=>?_
 simp only[Az]at hc hv
 cases h:l[i]? with
 |none=>rw[h]at hc;cases hc
 |some z=>
  rw[h]at hc;simp[h]at hv
  cases hc;rw[<-hv];exact .int _ _
theorem qo {C:Inhabited aI->aQ} {f:FuncId} {fn:Func} {body:Code} (hc:∀I:Inhabited aI, @Go.Sy.ch I Tryz.prog Tryz.tab f (C I)) (hfn:Tryz.tab.fns.get f=some fn) (hb:fn.body=some body) {args:List Value} {w:World} {b:Bool}
  (hy:∀I:Inhabited aI,∃y,(C I).pre y/\PL (bV Tryz.tab w).get ((C I).args y) (args.map (eY w.heap.size))/\(C I).res y= .bool b):Calls Tryz.prog f args.toArray w fun e w'=>e= .returned (.bool b)/\Below w.heap.size w w':=by
 letI:Inhabited aI:=⟨⟨True,#[]⟩⟩
 obtain⟨y,h1,h2,h3⟩:=hy inferInstance;refine Calls.mono (mY bJ.ok (hc inferInstance) hfn hb h1 h2 (ef.pB rfl _)) ?_;rintro e w' ⟨v,rfl,hv,hbel,_⟩;rw[h3]at hv
 cases hv;exact⟨rfl,hbel⟩
section
variable [Inhabited aI]
def OR (p:World->Prop):Prop:=∀w,ef w->p w
theorem ql {w:World} {p:Nat->Prop} {g:Bool} {a:Addr} {v:Value} (h:Rd w p g (.wp a) v):v= .pointer (some a):=by cases h;rfl
end
def xj [Inhabited aI]:aQ:={Y:=ak,pre:=fun _=>True,args:=fun d=>[.agg [i64 d.dev,i64 d.inc],i64 d.seq],res:=fun d=> .bool (eB d)}
theorem Ms [Inhabited aI]:CO PC xj:=bZ (C:=xj) (cfg:=fun y=>cC GL (cM y)) bJ (fun _=>rfl) (fun _=>LO) (n:=400) (by
 intro (d:ak) _
 (conv=>whnf)
 refine⟨d,?_⟩
 repeat ((conv=>whnf);first|refine⟨rfl,?_⟩|refine⟨trivial,?_⟩)
 repeat' (first|exact trivial|exact rfl|((conv=>whnf);first|(apply aE<;>intro)|apply And.intro)))
theorem PB (a i n:Int) (w:World):Calls Tryz.prog 148 #[.agg #[.int .i64 a, .int .i64 i], .int .i64 n] w fun e w'=>e= .returned (.bool (eB ⟨a,i,n⟩))/\Below w.heap.size w w':=
 qo (C:=fun I=> @xj I) (fun I=> @Ms I) (hfn:=rfl) (hb:=rfl) (args:=[.agg #[.int .i64 a, .int .i64 i], .int .i64 n]) (fun I=>⟨⟨a,i,n⟩,trivial,⟨rfl,fun j c v hc hv=>by
  match j with
  |0=>cases hc;cases hv;exact xF [a,i]
  |1=>cases hc;cases hv;exact .int _ _
  |_+2=>cases hc⟩,rfl⟩)
theorem QT {w:World} {bv:Nat} {L:List ((Int×Int)×Int)} (hm:aw w bv dN cz L) (a i:Int):∀w':World,w'.heap[bv]? =w.heap[bv]? ->(Instr.lookup 154 (.map (some bv)) (.agg #[.int .i64 a, .int .i64 i]) false).run Tryz.prog w'= .ok (.int .i64 ((az L (a,i)).getD 0)) w':=fun w' h=>by
 have:=(hm.same h).lookup yo Tryz.underlying154 (rY w') (a,i) false;simp only[Ao,AP]at this;rw[show dN (a,i)= .agg #[.int .i64 a, .int .i64 i]from rfl]at this;rw[this]
 cases az L (a,i)<;>rfl
structure dZ (S:Nat->Prop) (w w':World):Prop where
 os:w'.os=w.os
 tape:w'.tape=w.tape
 output:w'.output=w.output
 size:w.heap.size<=w'.heap.size
 block:∀k,k<w.heap.size->¬S k->w'.heap[k]? =w.heap[k]?
theorem jY {S:Nat->Prop} {w w':World} (h:Below w.heap.size w w'):dZ S w w':=⟨h.os,h.tape,h.output,h.size,fun k hk _=>h.block k hk⟩
theorem dZ.trans {S:Nat->Prop} {a b c:World} (h:dZ S a b) (k:dZ S b c):dZ S a c:=
 ⟨k.os.trans h.os,k.tape.trans h.tape,k.output.trans h.output,AW h.size k.size,fun i hi hS=>(k.block i (AK hi h.size) hS).trans (h.block i hi hS)⟩
theorem dZ.mono {S T:Nat->Prop} {w w':World} (h:dZ S w w') (hST:∀k,k<w.heap.size->S k->T k):dZ T w w':=⟨h.os,h.tape,h.output,h.size,fun k hk hT=>h.block k hk fun hS=>hT (hST k hk hS)⟩
theorem dZ.aJ {S:Nat->Prop} (w:World) {b:Nat} (o:Obj) (hb:S b):dZ S w.drew (World.aJ w.drew b o):=⟨rfl,rfl,rfl,by simp[World.aJ],fun k _ hS=>by
 show(w.drew.heap.setIfInBounds b o)[k]? =_
 have hne:¬b=k:=by rintro rfl;exact hS hb
 rw[Bt,Ai hne]⟩
theorem dZ.drew {S:Nat->Prop} {a w:World} (h:dZ S a w):dZ S a w.drew:=⟨h.os,h.tape,h.output,h.size,h.block⟩
theorem Pz (b:Nat) (w:World):(binOp BinOp.eql 154 (.map (some b)) (.map none)).run Tryz.prog w= .ok (.bool false) w:=by kernel_rfl
theorem PA {w:World} {bs bv:Nat} {L:List ((Int×Int)×Int)} (hs:w.cell? ⟨bs,0,none⟩=some (.map (some bv))) (hm:aw w bv dN cz L) (a i n:Int) (hne:bs≠bv) (hd:eB ⟨a,i,n⟩=true) (hlt:(az L (a,i)).getD 0<n):
  Calls Tryz.prog 106 #[.pointer (some ⟨bs,0,none⟩), .agg #[.int .i64 a, .int .i64 i], .int .i64 n] w fun e w'=>e= .returned (.bool true)/\dZ (· =bv) w w'/\aw w' bv dN cz (bN L (a,i) n):=by
 have hlk:=QT hm a i;have hc:=fun w=>PB a i n w
 rw[hd]at hc;have hbv:bv<w.heap.size:=by
  obtain⟨es,clk,h,_⟩:=hm.at_;exact(Ac.1 h).1
 have hbs:bs<w.heap.size:=by
  unfold World.cell? at hs
  cases h:w.heap[bs]? with
  |none=>simp[h]at hs
  |some o=>exact(Ac.1 h).1
 have hle:decide (n<=(az L (a,i)).getD 0)=false:=AU (by omega);have hmn:=fun w=>Pz bv w
 go_enter Tryz.func106,Tryz.ntmps106
 go_wp2_with fail
 have hq:Below w.heap.size w (w.alloc (.cells #[.int .i64 a, .int .i64 i] 69)).drew:=((Below.refl w.heap.size w).alloc (Aj _) _).drew;have hsz:(w.alloc (.cells #[.int .i64 a, .int .i64 i] 69)).drew.heap.size=w.heap.size+1:=by simp
 have hn0:(w.alloc (.cells #[.int .i64 a, .int .i64 i] 69)).drew.cell? ⟨w.heap.size,0,none⟩=some (.int .i64 a):=by simp
 have hn1:(w.alloc (.cells #[.int .i64 a, .int .i64 i] 69)).drew.cell? ⟨w.heap.size,1,none⟩=some (.int .i64 i):=by simp
 go_region_with (go_at_call 148;refine(hc _).mono ?_;rintro e w1 ⟨rfl,hb⟩;have hs1:w1.cell? ⟨bs,0,none⟩=some (.map (some bv)):=(hb.cell (by rw[hsz];show bs<_;omega)).trans ((hq.cell hbs).trans hs);have hl1:=hlk w1 ((hb.block bv (by rw[hsz];omega)).trans (hq.block bv hbv));have hb0:=(hb.cell (p:=⟨w.heap.size,0,none⟩) (by rw[hsz];show w.heap.size<_;omega)).trans hn0;have hb1:=(hb.cell (p:=⟨w.heap.size,1,none⟩) (by rw[hsz];show w.heap.size<_;omega)).trans hn1)
 all_goals (have hmw:aw w1.drew bv dN cz L:=hm.same ((hb.block bv (by rw[hsz];omega)).trans (hq.block bv hbv)))
 all_goals (obtain⟨es,clk,hu,hmu⟩:=hmw.update yo Tryz.underlying154 (a,i) n)
 all_goals (rw[show dN (a,i)= .agg #[.int .i64 a, .int .i64 i]from rfl,show cz n= .int .i64 n from rfl]at hu)
 all_goals (go_wp2_with fail)
 all_goals (go_region_with fail)
 all_goals (go_wp2)
 all_goals (go_ret)
 all_goals (exact⟨rfl,((jY hq).trans (jY hb).drew).trans (dZ.aJ _ _ rfl),hmu⟩)
end Go.Proofs
namespace Go.Proofs
open Go Go.Am Go.RowKit Go.Sy
def yc:aQ:={Y:=Unit,pre:=fun _=>True,args:=fun _=>[],res:=fun _=> .bool true}
theorem zd {P:Program} {f:FuncId} {fn:Func} {l:List Item} {R:Ending->World->Prop} {a:Act} {w:World} {v:Value} (hr:(results fn a.tmps).run P w= .ok v w) (hd:a.defers=[]) (hR:R (.returned v) w):xC P f fn l R .ret a w:=⟨hd,v,hr,hR⟩
theorem fm.mono {P:Program} {f:FuncId} {l:List Item} {a:Act} {w:World} {R R':Ending->World->Prop} (h:fm P f l a w R) (hr:∀e w',R e w'->R' e w'):fm P f l a w R':=fun cs=>by
 obtain⟨e,w',fr,h1,h2⟩:=h cs;exact⟨e,w',fr,hr _ _ h1,h2⟩
theorem O8 [Inhabited aI] (hdr:¬(default:aI).dr) {f:FuncId} (ha:∀w,Calls Tryz.prog f #[] w fun e w'=>e= .returned (.bool true)/\Below w.heap.size w w'):CO f yc:=lC bJ.ok (by
 rintro y - w args hold ⟨h1,h2⟩;match args,h1 with
 |[],_=>
 refine(ha w).mono ?_;rintro e w' ⟨rfl,hb⟩;exact⟨_,rfl, .inr (.bool true),hb,fun h=>(hdr h).elim⟩)
end Go.Proofs
