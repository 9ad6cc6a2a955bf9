/- Part 6: an evaluator, proved sound, and its use at this seat; no condition. -/
import Derived.WalkKit
import Derived.Deep.RegionWith
import Derived.Test.YtpbnfcmlcmiieaaGreatDoorP3
import Derived.Test.YtpbnfcmlcmiieaaGreatDoorP4
import Derived.Test.YtpbnfcmlcmiieaaGreatDoorP5
set_option linter.unusedSimpArgs false
set_option linter.unusedVariables false
set_option linter.unusedSectionVars false
set_option linter.deprecated false
set_option maxRecDepth 100000
set_option maxHeartbeats 4000000
namespace Go.Proofs
open Go Go.Am Go.RowKit Go.Sy
section
variable [Inhabited aE]
structure mc (m:bN):Prop where
 ctx:m.ctx.length<=100000
 seq:∀x∈m.ctx,0<=x.seq/\x.seq<=4294967296
 kept:m.kept.length<=50000
 dead:m.dead.length<=100000
end
section
variable [Inhabited aE]
def dF:bN:=⟨[],[],[]⟩
structure boundM (m:bN) (k:Nat):Prop where
 ctx:m.ctx.length<=k
 seq:∀x∈m.ctx,tD x=true
 kept:m.kept.length<=k
 dead:m.dead.length<=100*k
end
section
variable [Inhabited aE]
def Iu (m:bN) (e:aK):Bool:=(e.kind==1)&& !decide (e.dot∈m.dead)
def yl (m:bN):List aK:=m.kept.filter (Iu m)
def kV (m:bN) (k:bm):List aK:=(yl m).filter fun e=>decide (e.key=k)
def JB:aK:=⟨⟨0,0,0⟩,⟨0,0,0⟩,0,sZ,⟨[],false,false,false,false,0,0,0⟩,[]⟩
def oE (l:List aK):Option aK:=l.foldl (fun b e=>match b with|none=>some e|some y=>if sC e.dG y.dG then some y else some e) none
def x6 (m:bN) (k:bm):aK×Bool:=((oE (kV m k)).getD JB,(oE (kV m k)).isSome)
def yO (x y:aK):Bool:=eH x.key y.key
def rn (out:List aK) (w:aK):List aK:=out.take (ch yO out w)++w::out.drop (ch yO out w)
def tW (m:bN) (l:List aK):List aK:=l.foldl (fun out x=>if(x6 m x.key).1.dot=x.dot then rn out (x6 m x.key).1 else out) []
def G9 (m:bN):List aK:=tW m (yl m)
def tv (m:bN):List ad:=(G9 m).map aK.item
def J5 (m:bN) (k:bm):List aj:=(kV m k).map (·.dot)
end
end Go.Proofs
namespace Go.Proofs
open Go Go.Am Go.RowKit Go.Sy Go.Gm
section
section
variable {K V:Type} [DecidableEq K]
theorem ct {L:List (K×V)} {k:K}:bc L k=none↔k∉L.map (·.1):=by
 unfold bc;rw[Option.map_eq_none_iff,List.find?_eq_none];constructor
 . rintro h hm;obtain⟨x,hx,rfl⟩:=A1.1 hm;exact h x hx (by simp)
 . rintro h x hx he;exact h (A1.2 ⟨x,hx,(Bi he).symm⟩)
theorem mo (k:K):bc ([]:List (K×V)) k=none:=rfl
theorem se (x:K×V) (L:List (K×V)) (k:K):bc (x::L) k=if k=x.1 then some x.2 else bc L k:=by
 unfold bc;rw[D9];by_cases h:k=x.1<;>simp[h]
theorem CH (L M:List (K×V)) (k:K):bc (L++M) k=(bc L k).or (bc M k):=by
 unfold bc;rw[List.find?_append]
 cases List.find? (fun x:K×V=>decide (k=x.1)) L<;>simp
theorem sH (L:List (K×V)) (k k':K) (v:V):bc (fD L k v) k'=if k'=k then some v else bc L k':=by
 have key:∀L:List (K×V),bc (L.map fun x=>if k=x.1 then(k,v)else x) k'=if k'=k then(if k∈L.map (·.1)then some v else none)else bc L k':=by
   intro L;induction L with
   |nil=>simp[mo]
   | cons x L ih=>
     rw[Ay,se,se,ih,Ay];by_cases h1:k=x.1
     . by_cases h2:k'=k
       . rw[Ai h1];simp only[h2,AK];rw[Ai (by rw[h1];exact Al)]
       . have h3:¬k'=x.1:=fun e=>h2 (e.trans h1.symm)
         rw[Ai h1];simp only[Ae h2,Ae h3]
     . by_cases h2:k'=k
       . rw[Ae h1];have h3:¬k'=x.1:=fun e=>h1 (h2.symm.trans e)
         simp only[Ai h2,Ae h3,An,h1,false_or]
       . rw[Ae h1];simp only[Ae h2]
 unfold fD;split
 . rename_i hm;rw[key,Ai hm]
 . rename_i hm;rw[CH,se,mo];by_cases h2:k'=k
   . rw[Ai h2,Ai h2,h2,ct.2 hm];rfl
   . rw[Ae h2,Ae h2];cases bc L k'<;>rfl
end
abbrev DL:=List (aj×Int)
structure fY where
 kept:List (aj×(Value×aK))
 alive:List (bm×(Nat×DL))
 dead:DL
 vec:List ((Int×Int)×Int)
def ni (A:List (bm×(Nat×DL))) (k:bm) (d:aj):Prop:=∃x,bc A k=some x/\(bc x.2 d).isSome=true
def Jn (A:List (bm×(Nat×DL))):Prop:=∀k x,bc A k=some x->x.2≠[]
structure yV (kept:List (aj×(Value×aK))) (dead:aj->Prop) (A:List (bm×(Nat×DL))):Prop where
 al:∀k d,ni A k d↔∃x,bc kept d=some x/\x.2.kind=1/\x.2.key=k/\ ¬dead d
 full:Jn A
def I4 (L:List ((Int×Int)×Int)) (a i:Int):Int:=(bc L (a,i)).getD 0
structure kM (G:fY) (m:bN):Prop where
 vec:∀a i,I4 G.vec a i=getM m.ctx a i
 kept:∀e:aK,e∈m.kept↔∃v,bc G.kept e.dot=some (v,e)
 keys:∀d x,bc G.kept d=some x->x.2.dot=d
 len:G.kept.length=m.kept.length
 sorted:m.kept.Pairwise fun x y=>bl x.dot y.dot=true
 ctx:∀e∈m.kept,rk m.ctx e.dot=true
 dead:∀d,(bc G.dead d).isSome=true↔d∈m.dead
 alv:yV G.kept (fun x=>(bc G.dead x).isSome=true) G.alive
theorem JC:kM ⟨[],[],[],[]⟩ dF:=by
 refine⟨fun _ _=>rfl,fun e=>?_,fun d x h=>(by cases h),rfl,List.Pairwise.nil,fun e h=>(by cases h),fun d=>?_,⟨fun k d=>?_,fun k x h=>(by cases h)⟩⟩
 . simp[dF,mo]
 . simp[dF,mo]
 . simp[ni,mo]
section
variable {α:Type} {less:α->α->Bool}
theorem G1 (l:List α) (e:α):l.take (ch less l e)=l.takeWhile fun x=>less x e:=by
 unfold ch;conv=>lhs;rw[<-D3 (p:=fun x=>less x e) (l:=l)]
 rw[List.take_left'];simp
theorem GK (l:List α) (e:α):l.drop (ch less l e)=l.dropWhile fun x=>less x e:=by
 unfold ch;conv=>lhs;arg 2;rw[<-D3 (p:=fun x=>less x e) (l:=l)]
 rw[List.drop_left'];simp
theorem E4 (htr:∀x y z,less x y=true->less y z=true->less x z=true) {e:α}:∀{l:List α},l.Pairwise (fun x y=>less x y=true)->(∀x∈l,less x e=true\/less e x=true)->(l.take (ch less l e)++e::l.drop (ch less l e)).Pairwise fun x y=>less x y=true:=by
 intro l hl ht;rw[G1,GK];induction l with
 |nil=>simp
 |cons x l ih=>
  rw[Dc]at hl;rw[Bg,List.dropWhile_cons];by_cases h:less x e=true
  . simp only[h,AK,Bc,Dc];refine⟨fun y hy=>?_,ih hl.2 fun y hy=>ht y (Ap _ hy)⟩;rcases BU.1 hy with hy|hy
    . exact hl.1 y (List.takeWhile_subset _ hy)
    . rcases An.1 hy with rfl|hy
      . exact h
      . exact hl.1 y (List.dropWhile_subset _ hy)
  . simp only[h,Ax,BC,Dc,Ah];have h1:less e x=true:=(ht x Al).resolve_left h;refine⟨fun y hy=>?_,hl⟩;rcases An.1 hy with rfl|hy
    . exact h1
    . exact htr _ _ _ h1 (hl.1 y hy)
theorem HR (l:List α) (e x:α):x∈l.take (ch less l e)++e::l.drop (ch less l e)↔x∈l\/x=e:=by
 conv=>rhs;lhs;rw[<-DG (ch less l e) l]
 simp only[BU,An];constructor
 . rintro(h|h|h)
   . exact .inl (.inl h)
   . exact .inr h
   . exact .inl (.inr h)
 . rintro((h|h)|h)
   . exact .inl h
   . exact .inr (.inr h)
   . exact .inr (.inl h)
theorem Hg [DecidableEq α] (l:List α) (e x:α):x∈dN less l e↔x∈l\/x=e:=by
 unfold dN;split
 . rename_i h;refine⟨.inl,fun hh=>hh.elim id fun hx=>?_⟩;subst hx;exact Br h
 . exact HR l e x
theorem Gj [DecidableEq α] (l a:List α) (x:α):x∈l.foldl (dN less) a↔x∈a\/x∈l:=by
 induction l generalizing a with
 |nil=>simp
 |cons y l ih=>rw[Dp,ih,Hg,An,or_assoc]
theorem rV [DecidableEq α] (l:List α) (x:α):x∈bA less l↔x∈l:=by
 unfold bA;rw[Gj];simp
end
variable [Inhabited aE]
end
theorem IJ {Fz:Nat->Option AO} {n:Nat} (l:List Int):aC Fz (.agg (l.map i64)) (ep n (.agg (l.map fun z=>Value.int .i64 z).toArray)):=by
 unfold ep;refine .agg (by simp) fun i c v hc hv=>?_
 simp only[Au]at hc hv
 cases h:l[i]? with
 |none=>rw[h]at hc;cases hc
 |some z=>
  rw[h]at hc;simp[h]at hv
  cases hc;rw[<-hv];exact .int _ _
theorem tO {C:Inhabited aE->aR} {f:FuncId} {fn:Func} {body:Code} (hc:∀I:Inhabited aE, @Go.Sy.bq I Tryz.prog Tryz.tab f (C I)) (hfn:Tryz.tab.fns.get f=some fn) (hb:fn.body=some body) {args:List Value} {w:World} {b:Bool}
  (hy:∀I:Inhabited aE,∃y,(C I).pre y/\PL (bP Tryz.tab w).get ((C I).args y) (args.map (ep w.heap.size))/\(C I).res y= .bool b):Calls Tryz.prog f args.toArray w fun e w'=>e= .returned (.bool b)/\Below w.heap.size w w':=by
 letI:Inhabited aE:=⟨⟨True,#[]⟩⟩
 obtain⟨y,h1,h2,h3⟩:=hy inferInstance;refine Calls.mono (iQ cB.ok (hc inferInstance) hfn hb h1 h2 (dm.l9 rfl _)) ?_;rintro e w' ⟨v,rfl,hv,hbel,_⟩;rw[h3]at hv
 cases hv;exact⟨rfl,hbel⟩
section
variable [Inhabited aE]
def I6 (p:World->Prop):Prop:=∀w,dm w->p w
theorem Jv {w:World} {p:Nat->Prop} {g:Bool} {a:Addr} {v:Value} (h:Rd w p g (.wp a) v):v= .pointer (some a):=by cases h;rfl
theorem It {w:World} {p:Nat->Prop} {g:Bool} {n:Int} {v:Value} (h:Rd w p g (i64 n) v):v= .int .i64 n:=by cases h;rfl
end
structure qV (S:Nat->Prop) (w w':World):Prop where
 os:w'.os=w.os
 tape:w'.tape=w.tape
 output:w'.output=w.output
 size:w.heap.size<=w'.heap.size
 block:∀k,k<w.heap.size->¬S k->w'.heap[k]? =w.heap[k]?
end Go.Proofs
namespace Go.Proofs
open Go Go.Am Go.RowKit Go.Sy
end Go.Proofs
