/- Part 9: an evaluator, proved sound, and its use at this seat; no condition. -/
import Derived.Test.YtmfohfbdddlilaaGreatP7
import Derived.Test.YtmfohfbdddlilaaGreatP8
set_option linter.unusedSimpArgs false
set_option linter.unusedVariables false
set_option linter.unusedSectionVars false
set_option linter.deprecated false
set_option maxRecDepth 100000
set_option maxHeartbeats 4000000
namespace Go.Proofs
open Go Go.Am Go.RowKit Go.Sy
section
variable [Inhabited aD]
def G9 (x:aa):Bool:=decide (x=iv)
def js (e:af):Bool:=fN e.dot&&ua e.bw&&(e.bw.dev==e.dot.dev)&&jY e.dot e.over&&(bif e.kind==2 then G9 e.item&&cH 0 (Int.ofNat e.over.length)else bif e.kind==1 then ui e.item else false)
def mF (e:af):Prop:=e.key.name.length<=1000000/\e.ab.value.length<=1000000
noncomputable def xR (f:FuncId):Option aP:=bif Nat.beq f rQ then some FK else bif Nat.beq f o9 then some (iH (fun _=>True) fun e=>jY e.dot e.over)else xX f
theorem CG:∀g C,xR g=some C->CO g C:=cW Mb (cW N2 Cl)
theorem MH (x y:aa):x=y↔(x.key.name=y.key.name/\x.key.domain=y.key.domain/\x.key.path=y.key.path)/\x.ab.value=y.ab.value/\x.ab.aH=y.ab.aH/\x.ab.aZ=y.ab.aZ/\x.ab.aI=y.ab.aI/\x.ab.persistent=y.ab.persistent/\x.ab.aW=y.ab.aW/\x.ab.aG=y.ab.aG/\x.ab.access=y.ab.access:=by
 constructor
 . rintro rfl;simp
 . rintro⟨⟨h1,h2,h3⟩,h4⟩
   cases x;cases y;rename_i k c k' c'
   cases k;cases k';cases c;cases c';simp_all
theorem CM:CO rX (iH mF js):=cZ (C:=iH mF js) (cfg:=fun y=>eK xR (eD y)) ch (fun _=>rfl) (fun _=>CG) (n:=800) (by
 rintro⟨d,st,kd,ky,ck,l⟩ ⟨(hn:ky.name.length<=1000000),(hv:ck.value.length<=1000000)⟩
 (conv=>whnf)
 refine⟨d,?_⟩
 repeat' (first|exact trivial|(with_reducible exact rfl)|((conv=>whnf);first|(apply bN<;>intro)|apply And.intro)|((conv=>whnf);refine⟨st,?_⟩;(conv=>whnf);refine⟨rfl,?_⟩)|((conv=>whnf);refine⟨(⟨d,st,kd,ky,ck,l⟩:af),?_⟩;(conv=>whnf);refine⟨rfl,?_⟩)|((conv=>whnf);refine⟨(⟨ky,ck⟩:aa),?_⟩;(conv=>whnf);refine⟨rfl,?_⟩))
 all_goals first|exact hn|exact hv|skip
 all_goals (simp only[iH,js,G9,af.item])
 all_goals (simp_all[MH,iv,xk])
 all_goals trace_state)
end
section
variable [Inhabited aD]
def gD (x:ak) (a i:Int):Bool:=x.dev==a&&(x.inc==i&&true)
def getM (l:List ak) (a i:Int):Int:=match l.find? (fun x=>gD x a i)with|some x=>x.seq|none=>0
def fj (l:List ak) (d:ak):Bool:=fN d&&bZ d.seq (getM l d.dev d.inc)
def rq (x:ak) (a i:Int):Bool:=bif !(x.dev==a)then cH x.dev a else cH x.inc i
def fH (a i n:Int) (s:List ak×Bool) (x:ak):List ak×Bool:=
 let s1:=bif !s.2&& !rq x a i then(s.1++[⟨a,i,n⟩],true)else s
 bif gD x a i then s1 else(s1.1++[x],s1.2)
def gP (l:List ak) (a i n:Int):List ak:=let s:=l.foldl (fH a i n) ([],false);bif s.2 then s.1 else s.1++[⟨a,i,n⟩]
def ik (y:List ak×Int×Int×Int) (x:Nat):List ak×Bool:=(y.1.take x).foldl (fH y.2.1 y.2.2.1 y.2.2.2) ([],false)
noncomputable def GW (f:FuncId):Option aP:=bif Nat.beq f rX then some (iH mF js)else xR f
theorem LG:∀g C,GW g=some C->CO g C:=cW CM CG
noncomputable def GX (f:FuncId):Option aP:=GW f
theorem LH:∀g C,GX g=some C->CO g C:=LG
end
section
variable [Inhabited aD]
def xG (x y:af):Bool:=cM x.dot y.dot
def nW (l:List af) (e:af):Nat:=eB xG l e
def gi (l:List af) (e:af):List af:=l.take (nW l e)++e::l.drop (nW l e)
def eL (m:bh) (e:af):bh×Bool×Int:=
 if js e=false then(m,false,1)else if fj m.ctx e.dot=true then(m,false,0)else if getM m.ctx e.dot.dev e.dot.inc+1≠e.dot.seq then(m,false,6)else if 2048<=m.kept.length then(m,false,9)
 else(⟨gP m.ctx e.dot.dev e.dot.inc e.dot.seq,gi m.kept e,eI cM (m.dead++e.over)⟩,true,0)
structure lJ (m:bh):Prop where
 ctx:m.ctx.length<=100000
 seq:∀x∈m.ctx,0<=x.seq/\x.seq<=4294967296
 kept:m.kept.length<=50000
 dead:m.dead.length<=100000
theorem JZ {l:List ak} (h:∀x∈l,0<=x.seq/\x.seq<=4294967296) (a i:Int):0<=getM l a i/\getM l a i<=4294967296:=by
 unfold getM
 cases e:l.find? (fun x=>gD x a i)with
 |none=>simp
 |some x=>exact h x (EL e)
noncomputable def GZ (f:FuncId):Option aP:=GX f
theorem LJ:∀g C,GZ g=some C->CO g C:=LH
end
section
variable [Inhabited aD]
noncomputable def G0 (f:FuncId):Option aP:=GZ f
theorem LK:∀g C,G0 g=some C->CO g C:=LJ
def kW:bh:=⟨[],[],[]⟩
def kC (l:List af):bh:=l.foldl (fun m e=>(eL m e).1) kW
def Gp (l:List af):Prop:=l.length<=100/\ ∀e∈l,uu e=true
theorem yZ {e:af} (h:uu e=true):mF e/\e.over.length<=100:=by
 simp only[uu,Ab,gT,Ah,Ak]at h;exact⟨⟨by omega,by omega⟩,by omega⟩
theorem F1 (l:List ak) (a i n:Int):gP l a i n=bif (l.foldl (fH a i n) ([],false)).2 then(l.foldl (fH a i n) ([],false)).1 else(l.foldl (fH a i n) ([],false)).1++[⟨a,i,n⟩]:=rfl
theorem I4 {a i n:Int} {s:List ak×Bool} {x:ak} {P:ak->Prop} (hs:∀z∈s.1,P z) (hx:P x) (hn:P ⟨a,i,n⟩):∀z∈(fH a i n s x).1,P z:=by
 intro z hz;unfold fH at hz
 cases h1:(!s.2&& !rq x a i)<;>cases h2:gD x a i<;>simp only[h1,h2,Bd,AN,Bc,BU]at hz
 . rcases hz with hz|rfl
   . exact hs z hz
   . exact hx
 . exact hs z hz
 . rcases hz with(hz|rfl)|rfl
   . exact hs z hz
   . exact hn
   . exact hx
 . rcases hz with hz|rfl
   . exact hs z hz
   . exact hn
theorem Ml {l:List ak} {a i n:Int} {P:ak->Prop} (hl:∀z∈l,P z) (hn:P ⟨a,i,n⟩):∀z∈gP l a i n,P z:=by
 have key:∀(l:List ak) (s:List ak×Bool),(∀z∈l,P z)->(∀z∈s.1,P z)->∀z∈(l.foldl (fH a i n) s).1,P z:=by
   intro l;induction l with
   |nil=>intro s _ hs;exact hs
   |cons x l ih=>intro s hl hs;exact ih _ (fun z hz=>hl z (Al _ hz)) (I4 hs (hl x An) hn)
 intro z hz;rw[F1]at hz;have h1:=key l ([],false) hl (fun z hz=>by cases hz)
 cases h:(l.foldl (fH a i n) ([],false)).2
 . rw[h]at hz;simp only[AN,Bc,BU]at hz;rcases hz with hz|rfl
   . exact h1 z hz
   . exact hn
 . rw[h]at hz;exact h1 z hz
theorem Mk (l:List ak) (a i n:Int):(gP l a i n).length<=l.length+1:=by
 have key:∀(l:List ak) (s:List ak×Bool),(l.foldl (fH a i n) s).1.length+(bif (l.foldl (fH a i n) s).2 then 0 else 1)<=s.1.length+(bif s.2 then 0 else 1)+l.length:=by
  intro l;induction l with
  |nil=>intro s;simp
  | cons x l ih=>
   intro s;have h1:=ih (fH a i n s x);have h2:(fH a i n s x).1.length+(bif (fH a i n s x).2 then 0 else 1)<=s.1.length+(bif s.2 then 0 else 1)+1:=by
    unfold fH
    cases hs:s.2<;>cases rq x a i<;>cases gD x a i<;>simp[hs]<;>omega
   simp only[BL,As];omega
 have h1:=key l ([],false);rw[F1]
 cases h:(l.foldl (fH a i n) ([],false)).2<;>rw[h]at h1<;>simp at h1⊢ <;>omega
structure fx (m:bh) (k:Nat):Prop where
 ctx:m.ctx.length<=k
 seq:∀x∈m.ctx,fN x=true
 kept:m.kept.length<=k
 dead:m.dead.length<=100*k
theorem KK {x:ak} (h:fN x=true):0<=x.seq/\x.seq<=4294967296:=by
 simp only[fN,Ab,gT,Ah]at h;omega
theorem fx.ok {m:bh} {k:Nat} (h:fx m k) (hk:k<=1000):lJ m:=⟨by have:=h.ctx;omega,fun x hx=>KK (h.seq x hx),by have:=h.kept;omega,by have:=h.dead;omega⟩
theorem tp {e:af} (h:js e=true):fN e.dot=true:=by
 simp only[js,Ab]at h;exact h.1.1.1.1
theorem CR (l:List af) (e:af):(gi l e).length=l.length+1:=by
 unfold gi;have:=xf (less:=xG) l e;simp[nW];omega
theorem IU {m:bh} {e:af} {k:Nat} (h:fx m k) (he:e.over.length<=100):fx (eL m e).1 (k+1):=by
 have same:fx m (k+1):=⟨by have:=h.ctx;omega,h.seq,by have:=h.kept;omega,by have:=h.dead;omega⟩;unfold eL;split
 . exact same
 . rename_i h1;have h1:js e=true:=by simpa using h1
   split
   . exact same
   . split
     . exact same
     . split
       . exact same
       . refine⟨?_,Ml h.seq (tp h1),?_,?_⟩
         . have:=Mk m.ctx e.dot.dev e.dot.inc e.dot.seq;have:=h.ctx;show(gP m.ctx e.dot.dev e.dot.inc e.dot.seq).length<=_
           omega
         . show(gi m.kept e).length<=_
           rw[CR];have:=h.kept;omega
         . show(eI cM (m.dead++e.over)).length<=_
           have h2:=vZ (less:=cM) (m.dead++e.over) [];unfold eI;have:=h.dead;simp only[AE,Aw,Ax]at h2;omega
theorem vP {l:List af} (hl:∀e∈l,uu e=true):∀x,x<=l.length->fx (kC (l.take x)) x
 |0,_=>⟨by simp[kC,kW],by simp[kC,kW],by simp[kC,kW],by simp[kC,kW]⟩
 |x+1,h=>by
  have hx:x<l.length:=h;have h1:=vP hl x (by omega);have h2:kC (l.take (x+1))=(eL (kC (l.take x)) l[x]).1:=qO _ _ hx;rw[h2];exact IU h1 (yZ (hl _ (Bb hx))).2
end
end Go.Proofs
