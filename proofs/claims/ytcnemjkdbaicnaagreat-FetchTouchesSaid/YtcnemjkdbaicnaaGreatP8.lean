/- Part 8: an evaluator, proved sound, and its use at this seat; no condition. -/
import Derived.KernelRfl
import Derived.WalkKit
import Derived.Deep.RegionWith
import Derived.IntWalk
import Derived.Maps.RangeWalk
import Derived.Shelf.SlIter.Collect
import Derived.OwnWalk
import Derived.Deep.LoopGhost
import Derived.Lib.Walk
import Derived.Lib.SliceRun
import Derived.Shelf.SlSortCmp.WholeK
import Derived.Test.YtcnemjkdbaicnaaGreatProg
import Derived.Deep.MidRow
import Derived.Deep.RegionHeld3
import Derived.Test.YtcnemjkdbaicnaaGreatP3
import Derived.Test.YtcnemjkdbaicnaaGreatP6
import Derived.Test.YtcnemjkdbaicnaaGreatP7
set_option linter.unusedSimpArgs false
set_option linter.unusedVariables false
set_option linter.unusedSectionVars false
set_option linter.deprecated false
set_option maxRecDepth 100000
set_option maxHeartbeats 40000000
namespace Go.Proofs
open Go Go.Am Go.RowKit Go.Sy
section
variable [Inhabited aF]
noncomputable def F4 (f:FuncId):Option aK:=bif Nat.beq f HU then some LK else F3 f
theorem KC:∀g C,F4 g=some C->CO g C:=bM Xs KB
def mM:aN:=⟨[],[],[]⟩
def foldM (l:List ae):aN:=l.foldl (fun m e=>(dE m e).1) mM
def nV (l:List ae):Prop:=l.length<=100/\ ∀e∈l,iV e=true
theorem sC {e:ae} (h:iV e=true):ly e/\e.over.length<=100:=by
 simp only[iV,Ac,ed,Aa,Ah]at h;exact⟨⟨by omega,by omega⟩,by omega⟩
theorem Me (l:List aq) (a i n:Int):gi l a i n=bif (l.foldl (fO a i n) ([],false)).2 then(l.foldl (fO a i n) ([],false)).1 else(l.foldl (fO a i n) ([],false)).1++[⟨a,i,n⟩]:=rfl
theorem Sh {a i n:Int} {s:List aq×Bool} {x:aq} {P:aq->Prop} (hs:∀z∈s.1,P z) (hx:P x) (hn:P ⟨a,i,n⟩):∀z∈(fO a i n s x).1,P z:=by
 grind [fO]
theorem W6 {l:List aq} {a i n:Int} {P:aq->Prop} (hl:∀z∈l,P z) (hn:P ⟨a,i,n⟩):∀z∈gi l a i n,P z:=by
 have key:∀(l:List aq) (s:List aq×Bool),(∀z∈l,P z)->(∀z∈s.1,P z)->∀z∈(l.foldl (fO a i n) s).1,P z:=by
  intro l;induction l with
  |nil=>grind
  |cons x l ih=>intro s hl hs;exact ih _ (fun z hz=>hl z (AS _ hz)) (Sh hs (hl x Aq) hn)
 grind [Me]
theorem WZ (l:List aq) (a i n:Int):(gi l a i n).length<=l.length+1:=by
 have key:∀(l:List aq) (s:List aq×Bool),(l.foldl (fO a i n) s).1.length+(bif (l.foldl (fO a i n) s).2 then 0 else 1)<=s.1.length+(bif s.2 then 0 else 1)+l.length:=by
  intro l;induction l with
  |nil=>grind
  | cons x l ih=>
   intro s;have h1:=ih (fO a i n s x);have h2:(fO a i n s x).1.length+(bif (fO a i n s x).2 then 0 else 1)<=s.1.length+(bif s.2 then 0 else 1)+1:=by
    unfold fO
    cases hs:s.2<;>cases oY x a i<;>cases gf x a i<;>simp[hs]<;>omega
   grind
 have h1:=key l ([],false);rw[Me]
 cases h:(l.foldl (fO a i n) ([],false)).2<;>rw[h]at h1<;>simp at h1⊢ <;>omega
structure eX (m:aN) (k:Nat):Prop where
 ctx:m.ctx.length<=k
 seq:∀x∈m.ctx,fg x=true
 kept:m.kept.length<=k
 dead:m.dead.length<=100*k
theorem UL {x:aq} (h:fg x=true):0<=x.seq/\x.seq<=4294967296:=by
 grind [fg,ed]
theorem eX.ok {m:aN} {k:Nat} (h:eX m k) (hk:k<=1000):lK m:=⟨by have:=h.ctx;omega,fun x hx=>UL (h.seq x hx),by have:=h.kept;omega,by have:=h.dead;omega⟩
theorem xb {e:ae} (h:fw e=true):fg e.dot=true:=by
 grind [fw]
theorem CG (l:List ae) (e:ae):(eZ l e).length=l.length+1:=by
 grind [eZ]
theorem IT {m:aN} {e:ae} {k:Nat} (h:eX m k) (he:e.over.length<=100):eX (dE m e).1 (k+1):=by
 have same:eX m (k+1):=⟨by have:=h.ctx;omega,h.seq,by have:=h.kept;omega,by have:=h.dead;omega⟩;unfold dE;split
 . omega
 . rename_i h1;have h1:fw e=true:=by grind
   split
   . omega
   . split
     . omega
     . split
       . omega
       . refine⟨?_,W6 h.seq (xb h1),?_,?_⟩
         . have:=WZ m.ctx e.dot.dev e.dot.inc e.dot.seq;have:=h.ctx;grind
         . show(eZ m.kept e).length<=_
           rw[CG];have:=h.kept;omega
         . show(dy cg (m.dead++e.over)).length<=_
           have h2:=xe (less:=cg) (m.dead++e.over) [];unfold dy;have:=h.dead;grind
theorem qE {l:List ae} (hl:∀e∈l,iV e=true):∀x,x<=l.length->eX (foldM (l.take x)) x
 |0,_=>⟨by simp[foldM,mM],by simp[foldM,mM],by simp[foldM,mM],by simp[foldM,mM]⟩
 |x+1,h=>by
  have hx:x<l.length:=h;have h1:=qE hl x (by omega);have h2:foldM (l.take (x+1))=(dE (foldM (l.take x)) l[x]).1:=mF _ _ hx;rw[h2];exact IT h1 (sC (hl _ (AN hx))).2
def MS:aK:={Y:=List ae,pre:=nV,args:=fun y=>[dG y],res:=fun y=> .agg (foldM y).enc}
def ZI (y:List ae):aL:={α:=Nat,ok:=fun x=>x<=y.length,μ:=fun x=>y.length - x,bn:=[2,3],bc:=fun x=>[(0,dG y),(4,i64 x)],bV:=fun x=>[(1, .cells (foldM (y.take x)).enc Qg)]}
theorem Mn:CO F9 MS:=bR (cfg:=fun y=>cm F4 (cT F9 3 (ZI y))) bu (fun _=>rfl) (fun _=>KC) (n:=600) (by
 rintro(l:List ae) ⟨(hl:l.length<=100),(hlt:∀e∈l,iV e=true)⟩;refine⟨⟨(0:Nat),Au _,?_⟩,?_⟩
 . repeat' (first|exact trivial|(with_reducible exact rfl)|((conv=>whnf);first|(apply aG<;>intro)|apply And.intro))
   all_goals exact rfl
 intro (x:Nat) hx;have hx:x<=l.length:=hx;refine aG (fun hlt1=>?_) fun hge=>?_
 . have hlt':x<l.length:=cP hlt1;have hf:foldM (l.take (x+1))=(dE (foldM (l.take x)) l[x]).1:=mF _ _ hlt';have hb:=qE hlt x hx;have hsm:=sC (hlt _ (AN hlt'))
   (conv=>whnf)
   refine az.2 ⟨_,eA hlt',?_⟩;refine⟨(foldM (l.take x),l[x]),?_⟩
   repeat first|refine⟨rfl,?_⟩|refine⟨trivial,?_⟩
   refine⟨⟨hb.ok (by omega),hsm.1,by have:=hsm.2;grind⟩,?_⟩
   (conv=>whnf)
   refine ah.2 ⟨cW x (by omega),?_⟩;refine⟨(x+1:Nat),hlt',by show l.length - (x+1)<l.length - x;omega,?_⟩
   repeat' (first|exact trivial|(with_reducible exact rfl)|((conv=>whnf);first|(apply aG<;>intro)|apply And.intro))
   all_goals first|exact rfl|(rw[hf];exact rfl)
 . have hge':l.length<=x:=jz hge;have e:l.take x=l:=Ay hge'
   repeat' (first|exact trivial|(with_reducible exact rfl)|((conv=>whnf);first|(apply aG<;>intro)|apply And.intro))
   all_goals grind)
end
section
variable [Inhabited aF]
def Fl (m:aN) (e:ae):Bool:=(e.kind==1)&& !decide (e.dot∈m.dead)
def gD (m:aN):List ae:=m.kept.filter (Fl m)
def aX (m:aN) (k:aD):List ae:=(gD m).filter fun e=>decide (e.key=k)
def kA:ae:=⟨⟨0,0,0⟩,⟨0,0,0⟩,0,u9,⟨[],false,false,false,false,0,0,0⟩,[]⟩
def fq (l:List ae):Option ae:=l.foldl (fun b e=>match b with|none=>some e|some y=>if oQ e.bL y.bL then some y else some e) none
def ec (m:aN) (k:aD):ae×Bool:=((fq (aX m k)).getD kA,(fq (aX m k)).isSome)
def tn (x y:ae):Bool:=fj x.key y.key
def ku (out:List ae) (w:ae):List ae:=out.take (dB tn out w)++w::out.drop (dB tn out w)
def jR (m:aN) (l:List ae):List ae:=l.foldl (fun out x=>if(ec m x.key).1.dot=x.dot then ku out (ec m x.key).1 else out) []
def jx (m:aN):List ae:=jR m (gD m)
def fG (m:aN):List ab:=(jx m).map ae.item
def kX (m:aN) (k:aD):List aq:=(aX m k).map (·.dot)
theorem LQ {α:Type} {p:α->Bool} {l:List α} {x:Nat} (h:x<l.length):(l.take (x+1)).filter p=(l.take x).filter p++if p l[x]then[l[x]]else[]:=by
 rw[Av h,Dy];by_cases hp:p l[x]=true<;>simp[hp]
theorem Zy {α:Type} {p:α->Bool} {l:List α} {x:Nat}:((l.take x).filter p).length<=x:=Ar (A2 _ _) (by grind)
theorem Zx {α:Type} {p:α->Bool} {l:List α} {x:Nat} (h:¬(x:Int)<Int.ofNat l.length):(l.take x).filter p=l.filter p:=by
 rw[Ay (by grind)]
theorem CV {α β:Type} (f:α->β) {l:List α} {x:Nat} (h:x<l.length):(l.take (x+1)).map f=(l.take x).map f++[f l[x]]:=by
 rw[Av h,Br];rfl
theorem JZ {m:aN} (h:lK m):(gD m).length<=50000:=Ar (A2 _ _) h.kept
theorem Fg {m:aN} (h:lK m) (k:aD):(aX m k).length<=50000:=Ar (A2 _ _) (JZ h)
theorem V8 (out:List ae) (w:ae):(ku out w).length=out.length+1:=by
 grind [ku]
theorem ET (m:aN):∀(l out:List ae),(l.foldl (fun out x=>if(ec m x.key).1.dot=x.dot then ku out (ec m x.key).1 else out) out).length<=out.length+l.length
 |[],out=>by simp
 | x::l,out=>by
  have h1:=ET m l (if(ec m x.key).1.dot=x.dot then ku out (ec m x.key).1 else out);have h2:(if(ec m x.key).1.dot=x.dot then ku out (ec m x.key).1 else out).length<=out.length+1:=by
   grind [V8]
  grind
theorem R6 {m:aN} (h:lK m):(jx m).length<=50000:=by
 have h1:=ET m (gD m) [];have h2:=JZ h;grind [jx,jR]
theorem GD (n:Nat) (h:n<=60000):(Nat.ble (n*96) 16777216&&Nat.ble n 16777216)=true:=by
 rw[Ac,AF,AF];omega
theorem NV (n:Nat) (h:n<=600000):(Nat.ble (n*24) 16777216&&Nat.ble n 16777216)=true:=by
 rw[Ac,AF,AF];omega
noncomputable def Ny (f:FuncId):Option aK:=F4 f
theorem Wt:∀g C,Ny g=some C->CO g C:=KC
noncomputable def Nz (f:FuncId):Option aK:=Ny f
theorem Wu:∀g C,Nz g=some C->CO g C:=Wt
theorem EU {l:List ae} {x:Nat} (h:x<l.length):fq (l.take (x+1))=some (match fq (l.take x)with|none=>l[x]|some y=>if oQ l[x].bL y.bL then y else l[x]):=by
 grind [fq,mF]
theorem E8 {l:List ae} {x:Nat} (h0:0<x) (h:x<=l.length):∃y,fq (l.take x)=some y:=by
 obtain⟨k,rfl⟩:∃k,x=k+1:=⟨x - 1,by omega⟩;exact⟨_,EU (by omega)⟩
noncomputable def F5 (f:FuncId):Option aK:=Nz f
theorem KD:∀g C,F5 g=some C->CO g C:=Wu
end
end Go.Proofs
namespace Go.Proofs
open Go Go.Am Go.RowKit Go.Sy Go.Gm
section
section
variable {K V:Type} [DecidableEq K]
theorem cR {L:List (K×V)} {k:K}:aB L k=none↔k∉L.map (·.1):=by
 grind [aB,Option.map_eq_none_iff]
theorem mG {L:List (K×V)} {k:K} {v:V} (h:aB L k=some v):(k,v)∈L:=by
 grind [aB,Option.map_eq_some_iff]
theorem Fj {k:K} {u v:V}:∀{L:List (K×V)},(L.map (·.1)).Nodup->(k,u)∈L->(k,v)∈L->u=v
 |[],_,h,_=>by cases h
 |y::L,hn,h1,h2=>by
  rw[AW,Du]at hn;rcases Ap.1 h1 with h1|h1<;>rcases Ap.1 h2 with h2|h2
  . rw[<-h1,DV]at h2;exact h2.2.symm
  . exact absurd (Aw.2 ⟨_,h2,by rw[<-h1]⟩) hn.1
  . exact absurd (Aw.2 ⟨_,h1,by rw[<-h2]⟩) hn.1
  . exact Fj hn.2 h1 h2
theorem CS {L:List (K×V)} {k:K} {v:V} (hn:(L.map (·.1)).Nodup):aB L k=some v↔(k,v)∈L:=by
 refine⟨mG,fun h=>?_⟩
 cases e:aB L k with
 |none=>grind [cR]
 |some u=>rw[Fj hn (mG e) h]
theorem sO (k:K):aB ([]:List (K×V)) k=none:=rfl
theorem Cm (x:K×V) (L:List (K×V)) (k:K):aB (x::L) k=if k=x.1 then some x.2 else aB L k:=by
 grind [aB]
theorem Sz (L M:List (K×V)) (k:K):aB (L++M) k=(aB L k).or (aB M k):=by
 grind [aB]
theorem jw (L:List (K×V)) (k k':K) (v:V):aB (cq L k v) k'=if k'=k then some v else aB L k':=by
 have key:∀L:List (K×V),aB (L.map fun x=>if k=x.1 then(k,v)else x) k'=if k'=k then(if k∈L.map (·.1)then some v else none)else aB L k':=by
  intro L;induction L with
  |nil=>simp[sO]
  |cons x L ih=>
   rw[AW,Cm,Cm,ih,AW];grind
 unfold cq;split
 all_goals grind [Sz,cR]
theorem CR (L:List (K×V)) (k k':K):aB (di L k) k'=if k'=k then none else aB L k':=by
 grind [di,aB]
theorem Sa {L:List (K×V)} {k:K} (h:aB L k=none) (v:V):(cq L k v).length=L.length+1:=by
 grind [cq,cR]
theorem mem_keys {L:List (K×V)} {k:K}:k∈L.map (·.1)↔(aB L k).isSome=true:=by
 rw[Ep,DU,cR,Decidable.not_not]
end
abbrev DL:=List (aq×Int)
structure bg where
 kept:List (aq×(Value×ae))
 alive:List (aD×(Nat×DL))
 dead:DL
 vec:List ((Int×Int)×Int)
def pW (A:List (aD×(Nat×DL))) (nb:Nat) (k:aD) (d:aq):List (aD×(Nat×DL)):=
 match aB A k with
 |none=>cq A k (nb,[(d,1)])
 |some x=>cq A k (x.1,cq x.2 d 1)
def oe (A:List (aD×(Nat×DL))) (k:aD) (d:aq):List (aD×(Nat×DL)):=
 match aB A k with
 |none=>A
 |some x=>if di x.2 d=[]then di A k else cq A k (x.1,di x.2 d)
def kK (G:bg) (d:aq):bg:={G with dead:=cq G.dead d 1,alive:=match aB G.kept d with
 |some x=>if x.2.kind=1 then oe G.alive x.2.key d else G.alive
 |none=>G.alive}
def gQ (G:bg) (e:ae) (v:Value):bg:={G with vec:=cq G.vec (e.dot.dev,e.dot.inc) e.dot.seq,kept:=cq G.kept e.dot (v,e)}
def iL (G:bg) (e:ae) (nb:Nat):bg:=if e.kind=1/\aB G.dead e.dot=none then{G with alive:=pW G.alive nb e.key e.dot}else G
def kU (G:bg) (l:List aq):bg:=l.foldl kK G
def gv (A:List (aD×(Nat×DL))) (k:aD) (d:aq):Prop:=∃x,aB A k=some x/\(aB x.2 d).isSome=true
def tl (A:List (aD×(Nat×DL))):Prop:=∀k x,aB A k=some x->x.2≠[]
theorem Ul {A:List (aD×(Nat×DL))} {nb:Nat} {k k':aD} {d d':aq}:gv (pW A nb k d) k' d'↔gv A k' d'\/(k'=k/\d'=d):=by
 unfold gv pW
 cases e:aB A k with
 |none=>
  simp only[jw];by_cases h:k'=k
  all_goals simp_all[sO,Cm]
 |some x=>
  grind [jw]
theorem qzM {K V:Type} [DecidableEq K] (L:List (K×V)) (k:K) (v:V):cq L k v≠[]:=by
 intro e;have:=jw L k k v;rw[e,sO]at this;grind
theorem UE {A:List (aD×(Nat×DL))} {nb:Nat} {k:aD} {d:aq} (h:tl A):tl (pW A nb k d):=by
 intro k' x hx;unfold pW at hx;split at hx
 . rw[jw]at hx;split at hx
   . grind
   . exact h k' x hx
 . rw[jw]at hx;split at hx
   . grind [qzM]
   . exact h k' x hx
theorem Uk {A:List (aD×(Nat×DL))} {k k':aD} {d d':aq}:gv (oe A k d) k' d'↔gv A k' d'/\ ¬(k'=k/\d'=d):=by
 unfold gv oe
 cases e:aB A k with
 |none=>
  grind
 |some x=>
  have hdel:=CR x.2 d d';grind [CR,sO,jw]
theorem UD {A:List (aD×(Nat×DL))} {k:aD} {d:aq} (h:tl A):tl (oe A k d):=by
 intro k' x hx;unfold oe at hx;split at hx
 . exact h k' x hx
 . split at hx
   . rw[CR]at hx;split at hx
     . cases hx
     . exact h k' x hx
   . rename_i hne;rw[jw]at hx;split at hx
     . grind
     . exact h k' x hx
structure mn (kept:List (aq×(Value×ae))) (dead:aq->Prop) (A:List (aD×(Nat×DL))):Prop where
 al:∀k d,gv A k d↔∃x,aB kept d=some x/\x.2.kind=1/\x.2.key=k/\ ¬dead d
 full:tl A
theorem mn.kill {G:bg} {d:aq} (h:mn G.kept (fun x=>(aB G.dead x).isSome=true) G.alive):mn (kK G d).kept (fun x=>(aB (kK G d).dead x).isSome=true) (kK G d).alive:=by
 have hdead:∀x,(aB (kK G d).dead x).isSome=true↔(aB G.dead x).isSome=true\/x=d:=fun x=>by
   show(aB (cq G.dead d 1) x).isSome=true↔_
   rw[jw];by_cases e:x=d<;>simp[e]
 refine⟨fun k d'=>?_,?_⟩
 . show gv (match aB G.kept d with|some x=>if x.2.kind=1 then oe G.alive x.2.key d else G.alive|none=>G.alive) k d'↔∃x,aB G.kept d'=some x/\_
   simp only[hdead]
   cases e:aB G.kept d with
   | none=>
     simp only[h.al];grind
   | some y=>
     simp only;split
     . rename_i hk;rw[Uk,h.al];grind
     . rename_i hk;rw[h.al];grind
 . show tl (match aB G.kept d with|some x=>if x.2.kind=1 then oe G.alive x.2.key d else G.alive|none=>G.alive)
   split
   . split
     . exact UD h.full
     . exact h.full
   . exact h.full
theorem mn.tW {l:List aq} {G:bg} (h:mn G.kept (fun x=>(aB G.dead x).isSome=true) G.alive):mn (kU G l).kept (fun x=>(aB (kU G l).dead x).isSome=true) (kU G l).alive:=by
 induction l generalizing G with
 |nil=>exact h
 |cons d l ih=>exact ih h.kill
theorem TR (l:List aq) (G:bg):(kU G l).kept=G.kept/\(kU G l).vec=G.vec:=by
 induction l generalizing G with
 |nil=>exact⟨rfl,rfl⟩
 |cons d l ih=>exact ih (kK G d)
theorem TQ (l:List aq) (G:bg) (x:aq):(aB (kU G l).dead x).isSome=true↔(aB G.dead x).isSome=true\/x∈l:=by
 induction l generalizing G with
 |nil=>simp[kU]
 | cons d l ih=>
  have h:=ih (kK G d);have hd:(aB (kK G d).dead x).isSome=true↔(aB G.dead x).isSome=true\/x=d:=by
   show(aB (cq G.dead d 1) x).isSome=true↔_
   rw[jw];by_cases e:x=d<;>simp[e]
  grind [kU]
def oV (L:List ((Int×Int)×Int)) (a i:Int):Int:=(aB L (a,i)).getD 0
structure bS (G:bg) (m:aN):Prop where
 vec:∀a i,oV G.vec a i=getM m.ctx a i
 kept:∀e:ae,e∈m.kept↔∃v,aB G.kept e.dot=some (v,e)
 keys:∀d x,aB G.kept d=some x->x.2.dot=d
 len:G.kept.length=m.kept.length
 sorted:m.kept.Pairwise fun x y=>cg x.dot y.dot=true
 ctx:∀e∈m.kept,eK m.ctx e.dot=true
 dead:∀d,(aB G.dead d).isSome=true↔d∈m.dead
 zb:mn G.kept (fun x=>(aB G.dead x).isSome=true) G.alive
theorem bS.start:bS ⟨[],[],[],[]⟩ mM:=by
 refine⟨fun _ _=>rfl,fun e=>?_,fun d x h=>(by cases h),rfl,List.Pairwise.nil,fun e h=>(by cases h),fun d=>?_,⟨fun k d=>?_,fun k x h=>(by cases h)⟩⟩
 all_goals grind [mM,sO,gv]
theorem eB {x:aq} {a i:Int}:gf x a i=true↔x.dev=a/\x.inc=i:=by
 grind [gf]
theorem MG {a i n a' i':Int} (h:¬(a'=a/\i'=i)):∀(l:List aq) (s:List aq×Bool),(l.foldl (fO a i n) s).1.find? (fun x=>gf x a' i')=(s.1.find? fun x=>gf x a' i').or (l.find? fun x=>gf x a' i')
 |[],s=>by simp
 |x::l,s=>by
  have hn:gf ⟨a,i,n⟩ a' i'=false:=Ao.2 fun e=>h (by have:=eB.1 e;grind)
  rw[Bb,MG h l,List.find?_cons];have hx:gf x a i=true->gf x a' i'=false:=fun e=>Ao.2 fun e2=>h (by have h1:=eB.1 e;have h2:=eB.1 e2;omega)
  grind [fO]
theorem MF {a i n:Int}:∀(l:List aq) (s:List aq×Bool),(s.1.find? fun x=>gf x a i)=(if s.2=true then some ⟨a,i,n⟩else none)->((l.foldl (fO a i n) s).1.find? fun x=>gf x a i)=if(l.foldl (fO a i n) s).2=true then some ⟨a,i,n⟩else none
 |[],s,h=>h
 |x::l,s,h=>by
  rw[Bb];refine MF l _ ?_;have hn:gf ⟨a,i,n⟩ a i=true:=eB.2 ⟨rfl,rfl⟩;unfold fO
  cases e0:s.2<;>cases e1:oY x a i<;>cases e2:gf x a i<;>simp only[e0,Az,Bh,BB]at h<;>simp only[DR,Dp,Ew,DA,Bq,Dn,BZ,Bf,e0,BB,Bh,Az,List.find?_append,h,List.find?_cons,hn,e2,List.find?_nil,Option.none_or,Option.some_or,Option.or_none]
theorem LB (l:List aq) (a i n:Int):gi l a i n=bif (l.foldl (fO a i n) ([],false)).2 then(l.foldl (fO a i n) ([],false)).1 else(l.foldl (fO a i n) ([],false)).1++[⟨a,i,n⟩]:=rfl
theorem CT (l:List aq) (a i n a' i':Int):getM (gi l a i n) a' i'=if a'=a/\i'=i then n else getM l a' i':=by
 have hn:gf ⟨a,i,n⟩ a i=true:=eB.2 ⟨rfl,rfl⟩;split
 . grind [MF,getM,LB]
 . rename_i h;have h1:=MG (n:=n) h l ([],false);have hn2:gf ⟨a,i,n⟩ a' i'=false:=Ao.2 fun e=>h (by have:=eB.1 e;grind)
   grind [getM,LB]
section
variable {α:Type} {less:α->α->Bool}
theorem Xf (l:List α) (e:α):l.take (dB less l e)=l.takeWhile fun x=>less x e:=by
 grind [dB,List.takeWhile_append_dropWhile]
theorem WC (l:List α) (e:α):l.drop (dB less l e)=l.dropWhile fun x=>less x e:=by
 grind [dB,List.takeWhile_append_dropWhile]
theorem zT (htr:∀x y z,less x y=true->less y z=true->less x z=true) {e:α}:∀{l:List α},l.Pairwise (fun x y=>less x y=true)->(∀x∈l,less x e=true\/less e x=true)->(l.take (dB less l e)++e::l.drop (dB less l e)).Pairwise fun x y=>less x y=true:=by
 intro l hl ht;rw[Xf,WC];induction l with
 |nil=>simp
 |cons x l ih=>
  rw[Bg]at hl;rw[Bl,Df];grind [List.pairwise_cons,List.takeWhile_subset]
theorem uV (l:List α) (e x:α):x∈l.take (dB less l e)++e::l.drop (dB less l e)↔x∈l\/x=e:=by
 grind [List.take_append_drop]
theorem VU [DecidableEq α] (l:List α) (e x:α):x∈fM less l e↔x∈l\/x=e:=by
 grind [fM,uV]
theorem Vi [DecidableEq α] (l a:List α) (x:α):x∈l.foldl (fM less) a↔x∈a\/x∈l:=by
 induction l generalizing a with
 |nil=>simp
 |cons y l ih=>rw[Bb,ih,VU,Ap,or_assoc]
theorem qD [DecidableEq α] (l:List α) (x:α):x∈dy less l↔x∈l:=by
 grind [dy,Vi]
end
variable [Inhabited aF]
theorem bS.none {G:bg} {m:aN} (h:bS G m) {e:ae} (hh:eK m.ctx e.dot=false):aB G.kept e.dot=none:=by
 cases he:aB G.kept e.dot with
 |none=>rfl
 |some x=>
  have h1:=h.keys _ _ he;have h2:=(h.kept x.2).2 ⟨x.1,by rw[h1,he]⟩;have h3:=h.ctx _ h2;rw[h1,hh]at h3;cases h3
def qT (G:bg) (e:ae) (v:Value) (nb:Nat):bg:=kU (iL (gQ G e v) e nb) e.over
theorem JF (G:bg) (e:ae) (nb:Nat):(iL G e nb).kept=G.kept/\(iL G e nb).vec=G.vec/\(iL G e nb).dead=G.dead:=by
 grind [iL]
theorem mn.take {G:bg} {e:ae} {v:Value} {nb:Nat} (h:mn G.kept (fun x=>(aB G.dead x).isSome=true) G.alive) (hn:aB G.kept e.dot=none):
   mn (iL (gQ G e v) e nb).kept (fun x=>(aB (iL (gQ G e v) e nb).dead x).isSome=true) (iL (gQ G e v) e nb).alive:=by
 obtain⟨k1,k2,k3⟩:=JF (gQ G e v) e nb;rw[k1,k3];have hk:∀d,aB (gQ G e v).kept d=if d=e.dot then some (v,e)else aB G.kept d:=fun d=>jw _ _ _ _
 have hno:∀k,¬gv G.alive k e.dot:=fun k hh=>by
   obtain⟨x,hx,_⟩:=(h.al k e.dot).1 hh;rw[hn]at hx;cases hx
 show mn _ (fun x=>(aB G.dead x).isSome=true) _
 unfold iL;split
 . rename_i hc;have hd:¬(aB G.dead e.dot).isSome=true:=by
     have:=hc.2;rw[show(gQ G e v).dead=G.dead from rfl]at this;rw[this];simp
   refine⟨fun k d=>?_,UE h.full⟩;show gv (pW G.alive nb e.key e.dot) k d↔_
   rw[Ul,hk];by_cases hd2:d=e.dot
   . grind
   . simp only[An hd2,hd2,and_false,Dq];exact h.al k d
 . rename_i hc;refine⟨fun k d=>?_,h.full⟩;show gv G.alive k d↔_
   rw[hk];by_cases hd2:d=e.dot
   . subst hd2;simp only[BB];refine⟨fun hh=>absurd hh (hno k),?_⟩;rintro⟨x,hx,h2,_,h4⟩
     cases hx;refine absurd ⟨h2,?_⟩ hc;show aB G.dead e.dot=none
     simp_all
   . simp only[An hd2];exact h.al k d
theorem bS.apply {G:bg} {m:aN} {e:ae} (h:bS G m) (v:Value) (nb:Nat) (hr:fw e=true) (hh:eK m.ctx e.dot=false) (hs:getM m.ctx e.dot.dev e.dot.inc+1=e.dot.seq) (hk:¬2048<=m.kept.length):
   bS (qT G e v nb) (dE m e).1/\(dE m e).2=(true,0):=by
 have hA:dE m e=(⟨gi m.ctx e.dot.dev e.dot.inc e.dot.seq,eZ m.kept e,dy cg (m.dead++e.over)⟩,true,0):=by
   grind [dE]
 rw[hA];refine⟨?_,rfl⟩;have hn:=h.none hh;obtain⟨k1,k2,k3⟩:=JF (gQ G e v) e nb;obtain⟨q1,q2⟩:=TR e.over (iL (gQ G e v) e nb);have hkept:(qT G e v nb).kept=cq G.kept e.dot (v,e):=q1.trans k1;have hvec:(qT G e v nb).vec=cq G.vec (e.dot.dev,e.dot.inc) e.dot.seq:=q2.trans k2;have hput:∀x,x∈eZ m.kept e↔x∈m.kept\/x=e:=fun x=>uV m.kept e x
 have hdot:∀x∈m.kept,x.dot≠e.dot:=fun x hx he=>by
   have:=h.ctx x hx;rw[he,hh]at this;grind
 refine⟨fun a i=>?_,fun x=>?_,fun d x hx=>?_,?_,?_,fun x hx=>?_,fun d=>?_,?_⟩
 . show oV (qT G e v nb).vec a i=getM (gi m.ctx e.dot.dev e.dot.inc e.dot.seq) a i
   rw[hvec,CT];unfold oV;rw[jw];by_cases hc:a=e.dot.dev/\i=e.dot.inc
   . rw[Al hc,Al (by rw[hc.1,hc.2])];rfl
   . rw[An hc,An (by grind)];exact h.vec a i
 . show x∈eZ m.kept e↔_
   rw[hput,hkept];simp only[jw];constructor
   . rintro(hx|rfl)
     . rw[An (hdot x hx)];exact(h.kept x).1 hx
     grind
   . rintro⟨u,hu⟩;split at hu
     . grind
     . exact .inl ((h.kept x).2 ⟨u,hu⟩)
 . rw[hkept,jw]at hx;split at hx
   . grind
   . exact h.keys d x hx
 . show(qT G e v nb).kept.length=(eZ m.kept e).length
   rw[hkept,Sa hn,CG,h.len]
 . show(eZ m.kept e).Pairwise _
   refine zT (less:=og) (fun x y z=>sk) h.sorted fun x hx=>?_
   rcases zK x.dot e.dot with h1|h1|h1
   . exact .inl h1
   . grind
   . exact .inr h1
 . have hx:x∈eZ m.kept e:=hx;show eK (gi m.ctx e.dot.dev e.dot.inc e.dot.seq) x.dot=true
   unfold eK;rw[CT];rcases(hput x).1 hx with hx|rfl
   . have h1:=h.ctx x hx;grind [eK,ed]
   grind [xb,ed]
 . show(aB (kU (iL (gQ G e v) e nb) e.over).dead d).isSome=true↔d∈dy cg (m.dead++e.over)
   rw[TQ,qD,Di,k3];show(aB G.dead d).isSome=true\/_↔_
   rw[h.dead]
 . exact(h.zb.take hn).tW
end
end Go.Proofs
namespace Go.Proofs
open Go Go.Am Go.RowKit Go.Sy
section
variable [Inhabited aF]
theorem VM {m:aN} {l:List ae} {x:Nat} (h:x<l.length):jR m (l.take (x+1))=if(ec m l[x].key).1.dot=l[x].dot then ku (jR m (l.take x)) (ec m l[x].key).1 else jR m (l.take x):=mF _ _ h
end
end Go.Proofs
namespace Go.Proofs
open Go Go.Am Go.RowKit Go.Sy Go.Gm
section
variable [Inhabited aF]
section
variable {α:Type} {less:α->α->Bool}
theorem sE (hir:∀x,less x x=false) (htr:∀x y z,less x y=true->less y z=true->less x z=true):∀{l m:List α},l.Pairwise (fun x y=>less x y=true)->m.Pairwise (fun x y=>less x y=true)->(∀x,x∈l↔x∈m)->l=m
 |[],[],_,_,_=>rfl
 |[],y::m,_,_,h=>by have:=(h y).2 Aq;grind
 |x::l,[],_,_,h=>by have:=(h x).1 Aq;grind
 | x::l,y::m,hl,hm,h=>by
  rw[Bg]at hl hm;have hxy:x=y:=by
   have h1:=(h x).1 Aq;have h2:=(h y).2 Aq;grind
  subst hxy;congr 1
  refine sE hir htr hl.2 hm.2 fun z=>?_
  have hz:=h z;grind
theorem SE [DecidableEq α] (hir:∀x,less x x=false) (htr:∀x y z,less x y=true->less y z=true->less x z=true) (tri:∀x y,less x y=true\/x=y\/less y x=true) {l:List α} (hl:l.Pairwise fun x y=>less x y=true) (e:α):(fM less l e).Pairwise fun x y=>less x y=true:=by
 have key:∀{l:List α},l.Pairwise (fun x y=>less x y=true)->e∈l->l[dB less l e]? =some e:=by
   intro l;induction l with
   |nil=>grind
   |cons x l ih=>
    grind [List.pairwise_cons,dB,List.takeWhile_cons]
 unfold fM;split
 . exact hl
 . rename_i hne;refine zT htr hl fun x hx=>?_
   grind
theorem R5 [DecidableEq α] (hir:∀x,less x x=false) (htr:∀x y z,less x y=true->less y z=true->less x z=true) (tri:∀x y,less x y=true\/x=y\/less y x=true) (l:List α):(dy less l).Pairwise fun x y=>less x y=true:=by
 have key:∀(l a:List α),a.Pairwise (fun x y=>less x y=true)->(l.foldl (fM less) a).Pairwise fun x y=>less x y=true:=by
  intro l;induction l with
  |nil=>grind
  |cons x l ih=>grind [SE]
 exact key l [] List.Pairwise.nil
end
theorem wG (l:List aq):(dy cg l).Pairwise fun x y=>cg x y=true:=R5 sq (fun _ _ _=>sk) zK l
theorem uK {l m:List aq} (hl:l.Pairwise fun x y=>cg x y=true) (h:∀x,x∈l↔x∈m):l=dy cg m:=
 sE sq (fun _ _ _=>sk) hl (wG m) fun x=>by rw[h,qD]
theorem bS.al {G:bg} {m:aN} (h:bS G m) (k:aD) (d:aq):gv G.alive k d↔∃e∈aX m k,e.dot=d:=by
 rw[h.zb.al];unfold aX gD Fl;simp only[As,Ac,A0,Ai,BD,Aa];constructor
 . rintro⟨x,h1,h2,h3,h4⟩;have hd:=h.keys d x h1;have hk:=(h.kept x.2).2 ⟨x.1,by rw[hd,h1]⟩;exact⟨x.2,⟨⟨hk,h2,fun hm=>h4 ((h.dead d).2 (hd▸hm))⟩,h3⟩,hd⟩
 . rintro⟨e,⟨⟨hk,h2,h3⟩,h4⟩,rfl⟩;obtain⟨v,hv⟩:=(h.kept e).1 hk;exact⟨(v,e),hv,h2,h4,fun hd=>h3 ((h.dead _).1 hd)⟩
theorem Jj {G:bg} {m:aN} (h:bS G m) (k:aD):((aX m k).map (·.dot)).Pairwise fun x y=>cg x y=true:=by
 rw[Dm];exact B0 ((AI).trans AI) h.sorted
theorem Wc {G:bg} {m:aN} (h:bS G m) {k:aD} {l:List aq} (hl:∀d,d∈l↔gv G.alive k d):dy cg l=(aX m k).map (·.dot):=
 (uK (Jj h k) fun d=>by rw[hl,h.al];simp).symm
theorem KW {G:bg} {m:aN} (h:bS G m) {k:aD} {e:ae} (he:e∈aX m k):∃v,aB G.kept e.dot=some (v,e):=
 (h.kept e).1 (As.1 (As.1 he).1).1
theorem wW {G:bg} {m:aN} (h:bS G m) (k:aD):(aB G.alive k).isSome=true↔aX m k≠[]:=by
 constructor
 . intro hs;obtain⟨x,hx⟩:=Bp.1 hs;have hf:=h.zb.full k x hx;obtain⟨y,L,hL⟩:∃y L,x.2=y::L:=by
    cases e:x.2 with
    |nil=>grind
    |cons y L=>grind
   obtain⟨e,he,_⟩:=(h.al k y.1).1 ⟨x,hx,by rw[hL];simp[aB]⟩;grind
 . intro hne;obtain⟨e,he⟩:=Es _ hne;obtain⟨x,hx,_⟩:=(h.al k e.dot).2 ⟨e,he,rfl⟩;rw[hx];rfl
theorem Y2:∀{l:List ae} {y:ae},fq l=some y->y∈l:=by
 have key:∀(l:List ae) (b:Option ae) (y:ae),l.foldl (fun b e=>match b with|none=>some e|some y=>if oQ e.bL y.bL then some y else some e) b=some y->b=some y\/y∈l:=by
  intro l;induction l with
  |nil=>grind
  |cons x l ih=>
   intro b y h;rcases ih _ y h with h1|h1
   . cases b with
     |none=>grind
     |some z=>
      grind
   grind
 intro l y h;exact(key l none y h).resolve_left (by simp)
theorem WN {l:List ae} (h:l≠[]):∃y,fq l=some y:=by
 obtain⟨y,hy⟩:=E8 (l:=l) (x:=l.length) (A7.2 h) (Ad _);rw[A8]at hy;grind
theorem qG {m:aN} {k:aD} (h:aX m k≠[]):(ec m k).1∈aX m k:=by
 obtain⟨y,hy⟩:=WN h;grind [ec,Y2]
theorem da {m:aN} {k:aD} {e:ae}:e∈aX m k↔e∈gD m/\e.key=k:=by
 grind [aX]
theorem KX {G:bg} {m:aN} (h:bS G m) {x y:ae} (hx:x∈gD m) (hy:y∈gD m) (e:x.dot=y.dot):x=y:=by
 obtain⟨u,hu⟩:=(h.kept x).1 (As.1 hx).1;obtain⟨v,hv⟩:=(h.kept y).1 (As.1 hy).1;rw[e,hv]at hu;grind
theorem CF {G:bg} {m:aN} (h:bS G m):∀n,n<=(gD m).length->(jR m ((gD m).take n)).Pairwise (fun x y=>tn x y=true)/\ ∀y,y∈jR m ((gD m).take n)↔∃x∈(gD m).take n,(ec m x.key).1.dot=x.dot/\y=(ec m x.key).1
 |0,_=>by simp[jR]
 | n + 1, hn=>by
  have hn':n<(gD m).length:=hn;obtain⟨h1,h2⟩:=CF h n (by omega);have hf:=VM (m:=m) hn';have hmem:∀x,x∈(gD m).take (n+1)↔x∈(gD m).take n\/x=(gD m)[n]:=fun x=>by
    rw[Av hn',Di,Dx]
  rw[hf];have hal:(gD m)[n]∈gD m:=AN hn';have hkn:aX m (gD m)[n].key≠[]:=D3 (da.2 ⟨hal,rfl⟩);have hw:=da.1 (qG hkn);split
  . rename_i hd;have hwe:(ec m (gD m)[n].key).1=(gD m)[n]:=KX h hw.1 hal hd;refine⟨zT (less:=tn) (fun x y z=>oL _ _ _) h1 fun y hy=>?_,fun y=>?_⟩
    . obtain⟨x,hx,hxd,rfl⟩:=(h2 y).1 hy;rcases sB (ec m x.key).1.key (ec m (gD m)[n].key).1.key with h3|h3|h3
      . exact .inl h3
      . exfalso;have hxa:x∈gD m:=EE hx;have hkx:aX m x.key≠[]:=D3 (da.2 ⟨hxa,rfl⟩);have hwx:=da.1 (qG hkx);rw[hwx.2,hw.2]at h3;have hxe:x=(gD m)[n]:=by
          refine KX h hxa hal ?_;rw[<-hxd,h3,hd]
        obtain⟨j,hj,hje⟩:=AG hx;have hjn:j<n:=by simp at hj;omega
        rw[D7]at hje;have hs:=AK.1 (B0 AI h.sorted:(gD m).Pairwise _) j n (by omega) hn' hjn;rw[hje,hxe,sq]at hs
        cases hs
      . exact .inr h3
    . unfold ku;rw[uV,h2];constructor
      . rintro(⟨x,hx,hx2⟩|rfl)
        . exact⟨x,(hmem x).2 (.inl hx),hx2⟩
        . exact⟨_,(hmem _).2 (.inr rfl),hd,rfl⟩
      . rintro⟨x,hx,hx2,rfl⟩;rcases(hmem x).1 hx with hx|rfl
        . exact .inl ⟨x,hx,hx2,rfl⟩
        . exact .inr rfl
  . rename_i hd;refine⟨h1,fun y=>?_⟩;rw[h2];constructor
    . rintro⟨x,hx,hx2⟩;exact⟨x,(hmem x).2 (.inl hx),hx2⟩
    . rintro⟨x,hx,hx2,hx3⟩;rcases(hmem x).1 hx with hx|rfl
      . exact⟨x,hx,hx2,hx3⟩
      . exact absurd hx2 hd
theorem Ic {G:bg} {m:aN} (h:bS G m):(jx m).Pairwise fun x y=>tn x y=true:=by
 have:=(CF h _ (Ad _)).1;rwa [A8]at this
theorem wz {G:bg} {m:aN} (h:bS G m) (y:ae):y∈jx m↔∃k,aX m k≠[]/\y=(ec m k).1:=by
 have h2:=(CF h _ (Ad _)).2 y;rw[A8]at h2;unfold jx;rw[h2];constructor
 . rintro⟨x,hx,_,rfl⟩;exact⟨x.key,D3 (da.2 ⟨hx,rfl⟩),rfl⟩
 grind [da,qG]
theorem TJ {G:bg} {m:aN} (h:bS G m) {ks:List aD} (hs:ks.Pairwise fun x y=>fj x y=true) (hm:∀k,k∈ks↔(aB G.alive k).isSome=true):ks.map (fun k=>(ec m k).1)=jx m:=by
 have hkey:∀k∈ks,((ec m k).1).key=k:=fun k hk=>(da.1 (qG ((wW h k).1 ((hm k).1 hk)))).2
 refine sE (less:=tn) (fun x=>qA _) (fun x y z=>oL _ _ _) ?_ (Ic h) fun y=>?_
 . rw[Dm];refine List.Pairwise.imp_of_mem (fun{a b} ha hb hab=>?_) hs;show fj _ _=true
   rw[hkey a ha,hkey b hb];omega
 grind [wz,wW]
end
theorem E9 {Fz:Nat->Option AO} {n:Nat} (l:List Int):aO Fz (.agg (l.map i64)) (dh n (.agg (l.map fun z=>Value.int .i64 z).toArray)):=by
 unfold dh;refine .agg (by simp) fun i c v hc hv=>?_
 simp only[AE]at hc hv
 cases h:l[i]? with
 |none=>rw[h]at hc;cases hc
 |some z=>
  rw[h]at hc;simp[h]at hv
  cases hc;rw[<-hv];exact .int _ _
theorem yE {C:Inhabited aF->aK} {f:FuncId} {fn:Func} {body:Code} (hc:∀I:Inhabited aF, @Go.Sy.cA I Tryz.prog Tryz.tab f (C I)) (hfn:Tryz.tab.fns.get f=some fn) (hb:fn.body=some body) {args:List Value} {w:World} {b:Bool}
  (hy:∀I:Inhabited aF,∃y,(C I).pre y/\PL (bQ Tryz.tab w).get ((C I).args y) (args.map (dh w.heap.size))/\(C I).res y= .bool b):Calls Tryz.prog f args.toArray w fun e w'=>e= .returned (.bool b)/\Below w.heap.size w w':=by
 letI:Inhabited aF:=⟨⟨True,#[]⟩⟩
 obtain⟨y,h1,h2,h3⟩:=hy inferInstance;refine Calls.mono (kE bu.ok (hc inferInstance) hfn hb h1 h2 (cI.oI rfl _)) ?_;rintro e w' ⟨v,rfl,hv,hbel,_⟩;rw[h3]at hv
 cases hv;grind
section
variable [Inhabited aF]
def ZF (p:World->Prop):Prop:=∀w,cI w->p w
theorem Gj {w:World} {p:Nat->Prop} {g:Bool} {a:Addr} {v:Value} (h:Rd w p g (.wp a) v):v= .pointer (some a):=by cases h;rfl
theorem qzN {w:World} {p:Nat->Prop} {g:Bool} {n:Int} {v:Value} (h:Rd w p g (i64 n) v):v= .int .i64 n:=by cases h;rfl
end
def EV [Inhabited aF]:aK:={Y:=aq,pre:=fun _=>True,args:=fun d=>[.agg [i64 d.dev,i64 d.inc],i64 d.seq],res:=fun d=> .bool (fg d)}
theorem XK [Inhabited aF]:CO OO EV:=bR (C:=EV) (cfg:=fun y=>cm F5 (cV y)) bu (fun _=>rfl) (fun _=>KD) (n:=400) (by
 intro (d:aq) _;refine⟨d,?_⟩
 repeat first|refine⟨rfl,?_⟩|refine⟨trivial,?_⟩
 repeat' first|exact trivial|exact rfl|refine aG (fun _=>?_) fun _=>?_|apply And.intro)
theorem PD (a i n:Int) (w:World):Calls Tryz.prog 135 #[.agg #[.int .i64 a, .int .i64 i], .int .i64 n] w fun e w'=>e= .returned (.bool (fg ⟨a,i,n⟩))/\Below w.heap.size w w':=
 yE (C:=fun I=> @EV I) (fun I=> @XK I) (hfn:=rfl) (hb:=rfl) (args:=[.agg #[.int .i64 a, .int .i64 i], .int .i64 n]) (fun I=>⟨⟨a,i,n⟩,trivial,⟨rfl,fun j c v hc hv=>by
  match j with
  |0=>cases hc;cases hv;exact E9 [a,i]
  |1=>cases hc;cases hv;exact .int _ _
  |_+2=>cases hc⟩,rfl⟩)
theorem PR {w:World} {bv:Nat} {L:List ((Int×Int)×Int)} (hm:ay w bv eI cD L) (a i:Int):∀w':World,w'.heap[bv]? =w.heap[bv]? ->(Instr.lookup 134 (.map (some bv)) (.agg #[.int .i64 a, .int .i64 i]) false).run Tryz.prog w'= .ok (.int .i64 ((aB L (a,i)).getD 0)) w':=fun w' h=>by
 have:=(hm.same h).lookup Gt Tryz.underlying134 (vG w') (a,i) false;simp only[Az,Bh]at this;rw[show eI (a,i)= .agg #[.int .i64 a, .int .i64 i]from rfl]at this;rw[this]
 cases aB L (a,i)<;>rfl
structure eT (S:Nat->Prop) (w w':World):Prop where
 os:w'.os=w.os
 tape:w'.tape=w.tape
 output:w'.output=w.output
 size:w.heap.size<=w'.heap.size
 block:∀k,k<w.heap.size->¬S k->w'.heap[k]? =w.heap[k]?
theorem lZ {S:Nat->Prop} {w w':World} (h:Below w.heap.size w w'):eT S w w':=⟨h.os,h.tape,h.output,h.size,fun k hk _=>h.block k hk⟩
theorem eT.trans {S:Nat->Prop} {a b c:World} (h:eT S a b) (k:eT S b c):eT S a c:=
 ⟨k.os.trans h.os,k.tape.trans h.tape,k.output.trans h.output,Ar h.size k.size,fun i hi hS=>(k.block i (AR hi h.size) hS).trans (h.block i hi hS)⟩
theorem eT.mono {S T:Nat->Prop} {w w':World} (h:eT S w w') (hST:∀k,k<w.heap.size->S k->T k):eT T w w':=⟨h.os,h.tape,h.output,h.size,fun k hk hT=>h.block k hk fun hS=>hT (hST k hk hS)⟩
theorem eT.aU {S:Nat->Prop} (w:World) {b:Nat} (o:Obj) (hb:S b):eT S w.drew (World.aU w.drew b o):=⟨rfl,rfl,rfl,by simp[World.aU],fun k _ hS=>by
 show(w.drew.heap.setIfInBounds b o)[k]? =_
 have hne:¬b=k:=by grind
 rw[Ej,An hne]⟩
theorem eT.drew {S:Nat->Prop} {a w:World} (h:eT S a w):eT S a w.drew:=⟨h.os,h.tape,h.output,h.size,h.block⟩
theorem Qu (b:Nat) (w:World):(binOp BinOp.eql 134 (.map (some b)) (.map none)).run Tryz.prog w= .ok (.bool false) w:=by kernel_rfl
theorem PC {w:World} {bs bv:Nat} {L:List ((Int×Int)×Int)} (hs:w.cell? ⟨bs,0,none⟩=some (.map (some bv))) (hm:ay w bv eI cD L) (a i n:Int) (hne:bs≠bv) (hd:fg ⟨a,i,n⟩=true) (hlt:(aB L (a,i)).getD 0<n):
  Calls Tryz.prog 85 #[.pointer (some ⟨bs,0,none⟩), .agg #[.int .i64 a, .int .i64 i], .int .i64 n] w fun e w'=>e= .returned (.bool true)/\eT (· =bv) w w'/\ay w' bv eI cD (cq L (a,i) n):=by
 have hlk:=PR hm a i;have hc:=fun w=>PD a i n w
 rw[hd]at hc;have hbv:bv<w.heap.size:=by
  obtain⟨es,clk,h,_⟩:=hm.at_;exact(Ab.1 h).1
 have hbs:bs<w.heap.size:=by
  unfold World.cell? at hs
  cases h:w.heap[bs]? with
  |none=>simp[h]at hs
  |some o=>exact(Ab.1 h).1
 have hle:decide (n<=(aB L (a,i)).getD 0)=false:=A5 (by omega);have hmn:=fun w=>Qu bv w
 go_enter Tryz.func85,Tryz.ntmps85
 go_wp2_with fail
 have hq:Below w.heap.size w (w.alloc (.cells #[.int .i64 a, .int .i64 i] 67)).drew:=((Below.refl w.heap.size w).alloc (Ad _) _).drew;have hsz:(w.alloc (.cells #[.int .i64 a, .int .i64 i] 67)).drew.heap.size=w.heap.size+1:=by simp
 have hn0:(w.alloc (.cells #[.int .i64 a, .int .i64 i] 67)).drew.cell? ⟨w.heap.size,0,none⟩=some (.int .i64 a):=by simp
 have hn1:(w.alloc (.cells #[.int .i64 a, .int .i64 i] 67)).drew.cell? ⟨w.heap.size,1,none⟩=some (.int .i64 i):=by simp
 go_region_with (go_at_call 135;refine(hc _).mono ?_;rintro e w1 ⟨rfl,hb⟩;have hs1:w1.cell? ⟨bs,0,none⟩=some (.map (some bv)):=(hb.cell (by rw[hsz];show bs<_;omega)).trans ((hq.cell hbs).trans hs);have hl1:=hlk w1 ((hb.block bv (by rw[hsz];omega)).trans (hq.block bv hbv));have hb0:=(hb.cell (p:=⟨w.heap.size,0,none⟩) (by rw[hsz];show w.heap.size<_;omega)).trans hn0;have hb1:=(hb.cell (p:=⟨w.heap.size,1,none⟩) (by rw[hsz];show w.heap.size<_;omega)).trans hn1)
 all_goals (have hmw:ay w1.drew bv eI cD L:=hm.same ((hb.block bv (by rw[hsz];omega)).trans (hq.block bv hbv)))
 all_goals (obtain⟨es,clk,hu,hmu⟩:=hmw.update Gt Tryz.underlying134 (a,i) n)
 all_goals (rw[show eI (a,i)= .agg #[.int .i64 a, .int .i64 i]from rfl,show cD n= .int .i64 n from rfl]at hu)
 all_goals (go_wp2_with fail)
 all_goals (go_region_with fail)
 all_goals (go_wp2)
 all_goals (go_ret)
 all_goals (exact⟨rfl,((lZ hq).trans (lZ hb).drew).trans (eT.aU _ _ rfl),hmu⟩)
theorem Hg (a i n:Int) (w:World):Calls Tryz.prog 81 #[.agg #[.int .i64 a, .int .i64 i, .int .i64 n]] w fun e w'=>e= .returned (.bool (fg ⟨a,i,n⟩))/\Below w.heap.size w w':=
 yE (C:=fun I=>vv fg) (fun I=> @NR I) (hfn:=rfl) (hb:=rfl) (args:=[.agg #[.int .i64 a, .int .i64 i, .int .i64 n]]) (fun I=>⟨⟨a,i,n⟩,trivial,⟨rfl,fun j c v hc hv=>by
  match j with
  |0=>cases hc;cases hv;exact E9 [a,i,n]
  |_+1=>cases hc⟩,rfl⟩)
theorem VO {a i n:Int} (hd:fg ⟨a,i,n⟩=true):IntKind.i64.wrap (n - 1)=n - 1:=by
 letI:Inhabited aF:=⟨⟨True,#[]⟩⟩
 have h:bO 1 n=true/\bO n 4294967296=true:=by
  unfold fg at hd;simp only[Ac]at hd;exact⟨hd.1.2,hd.2⟩
 rw[ed,ed,Aa,Aa]at h;exact IntWalk.i64_in _ (by omega)
theorem PZ {w:World} {bs bv:Nat} {L:List ((Int×Int)×Int)} (hs:w.cell? ⟨bs,0,none⟩=some (.map (some bv))) (hm:ay w bv eI cD L) (a i n:Int) (hne:bs≠bv) (hd:fg ⟨a,i,n⟩=true) (hlt:(aB L (a,i)).getD 0=n - 1):
    Calls Tryz.prog 52 #[.pointer (some ⟨bs,0,none⟩), .agg #[.int .i64 a, .int .i64 i, .int .i64 n]] w fun e w'=>e= .returned (.bool true)/\eT (· =bv) w w'/\ay w' bv eI cD (cq L (a,i) n):=by
  have hc:=fun w=>Hg a i n w
  rw[hd]at hc;have hbv:bv<w.heap.size:=by
    obtain⟨es,clk,h,_⟩:=hm.at_;exact(Ab.1 h).1
  have hbs:bs<w.heap.size:=by
    unfold World.cell? at hs
    cases h:w.heap[bs]? with
    |none=>simp[h]at hs
    |some o=>exact(Ab.1 h).1
  go_enter Tryz.func52,Tryz.ntmps52
  go_wp2_with fail
  have hq:Below w.heap.size w (w.alloc (.cells #[.int .i64 a, .int .i64 i, .int .i64 n] 70)).drew:=((Below.refl w.heap.size w).alloc (Ad _) _).drew;have hsz:(w.alloc (.cells #[.int .i64 a, .int .i64 i, .int .i64 n] 70)).drew.heap.size=w.heap.size+1:=by simp
  have hn0:(w.alloc (.cells #[.int .i64 a, .int .i64 i, .int .i64 n] 70)).drew.cell? ⟨w.heap.size,0,none⟩=some (.int .i64 a):=by simp
  have hn1:(w.alloc (.cells #[.int .i64 a, .int .i64 i, .int .i64 n] 70)).drew.cell? ⟨w.heap.size,1,none⟩=some (.int .i64 i):=by simp
  have hn2:(w.alloc (.cells #[.int .i64 a, .int .i64 i, .int .i64 n] 70)).drew.cell? ⟨w.heap.size,2,none⟩=some (.int .i64 n):=by simp
  have hw:IntKind.i64.wrap (n - 1)=n - 1:=VO hd;have hge:∀{x:World} (_:x.cell? ⟨bs,0,none⟩=some (.map (some bv))) (_:ay x bv eI cD L),Calls Tryz.prog 50 #[.pointer (some ⟨bs,0,none⟩), .agg #[.int .i64 a, .int .i64 i]] x fun e w'=>e= .returned (.int .i64 (n - 1))/\Below x.heap.size x w':=fun h1 h2=>by
    have:=l4 h1 h2 a i;rw[hlt]at this;exact this
  go_region_with (first
   |(go_at_call 81;refine(hc _).mono ?_;rintro e w1 ⟨rfl,hb⟩;have hq1:=hq.trans (hb.mono (by rw[hsz];omega));have hs1:w1.cell? ⟨bs,0,none⟩=some (.map (some bv)):=(hq1.cell hbs).trans hs;have hm1:ay w1 bv eI cD L:=hm.same (hq1.block bv hbv);have hz1:=hb.size;have hb0:=(hb.cell (p:=⟨w.heap.size,0,none⟩) (by rw[hsz];show w.heap.size<_;omega)).trans hn0;have hb1:=(hb.cell (p:=⟨w.heap.size,1,none⟩) (by rw[hsz];show w.heap.size<_;omega)).trans hn1;have hb2:=(hb.cell (p:=⟨w.heap.size,2,none⟩) (by rw[hsz];show w.heap.size<_;omega)).trans hn2)
   |(go_at_call 50;refine(hge (by assumption) (by assumption)).mono ?_;rintro e w2 ⟨rfl,hc2⟩;have hq2:=hq1.trans (hc2.mono (by rw[hsz]at hz1;omega));have hs2:w2.cell? ⟨bs,0,none⟩=some (.map (some bv)):=(hq2.cell hbs).trans hs;have hm2:ay w2 bv eI cD L:=hm.same (hq2.block bv hbv);have hc0:=(hc2.cell (p:=⟨w.heap.size,0,none⟩) (by rw[hsz]at hz1;show w.heap.size<_;omega)).trans hb0;have hc1:=(hc2.cell (p:=⟨w.heap.size,1,none⟩) (by rw[hsz]at hz1;show w.heap.size<_;omega)).trans hb1;have hc2':=(hc2.cell (p:=⟨w.heap.size,2,none⟩) (by rw[hsz]at hz1;show w.heap.size<_;omega)).trans hb2)
   |(go_at_call 85;refine(PC hs2 hm2 a i n hne hd (by omega)).mono ?_;rintro e w3 ⟨rfl,hbut,hm3⟩))
  all_goals (go_wp2)
  all_goals (go_ret)
  all_goals (exact⟨rfl,(lZ hq2).trans hbut,hm3⟩)
section
def jk (w w':World):Prop:=∀(b:Nat) (arr:Array Value) (e:TypeId) (fz:Nat×Nat),w.heap[b]? =some (.cells arr e fz)->w'.heap[b]? =some (.cells arr e fz)
theorem WS [Inhabited aF] {w w':World} {p:Nat->Prop} {g:Bool} (hc:jk w w') {s:SV} {v:Value} (h:Rd w p g s v):Rd w' p g s v:=by
 induction h with
 |bool b=>exact .bool b
 |int k n=>exact .int k n
 |str s=>exact .str s
 |bj=>exact .bj
 |wp a=>exact .wp a
 |nils=>exact .nils
 |bw=>exact .bw
 |bB=>exact .bB
 |any v=>exact .any v
 |fn h v=>exact .fn h v
 |cU h v=>exact .cU h v
 |fu h0=>exact .fu h0
 |bP h h0 a c=>exact .bP h h0 a c
 |bh b off cap arr e fz sz u hp hb hs hl hn hcc h1 _ ih=>exact .bh b off cap arr e fz sz u hp (hc _ _ _ _ hb) hs hl hn hcc h1 ih
 |agg h1 _ ih=>exact .agg h1 ih
 |bA h1 _ ih=>exact .bA h1 ih
def cH (w:World) (l:List aq) (v:Value):Prop:=(l=[]/\ ∃a c,v= .slice a 0 c)\/ ∃b off cap arr e fz,v= .slice (some ⟨b,off,none⟩) l.length cap/\w.heap[b]? =some (.cells arr e fz)/\l.length<=cap/\off+l.length*3<=arr.size/\
 ∀i (h:i<l.length),arr[off+i*3]? =some (.int .i64 l[i].dev)/\arr[off+i*3+1]? =some (.int .i64 l[i].inc)/\arr[off+i*3+2]? =some (.int .i64 l[i].seq)
theorem gZ [Inhabited aF] {w:World} {p:Nat->Prop} {g:Bool} {k:IntKind} {n:Int} {v:Value} (h:Rd w p g (.int k n) v):v= .int k n:=by cases h;rfl
theorem nO [Inhabited aF] {w:World} {p:Nat->Prop} {g:Bool} {s:Bs} {v:Value} (h:Rd w p g (.str s) v):v= .string ⟨s.toArray⟩:=by cases h;rfl
theorem qK [Inhabited aF] {w:World} {p:Nat->Prop} {g:Bool} {b:Bool} {v:Value} (h:Rd w p g (.bool b) v):v= .bool b:=by cases h;rfl
theorem xH [Inhabited aF] {w:World} {p:Nat->Prop} {g:Bool} {l:List aq} {v:Value} (h:Rd w p g (cL l) v):cH w l v:=by
 unfold cL at h
 cases h with
 |fu h0=>exact .inl ⟨AP.1 h0,_,_,rfl⟩
 |bP h h0 a c=>exact .inl ⟨AP.1 h0,_,_,rfl⟩
 |bh b off cap arr e fz sz u hp hb hs hl hn hc h1 h2=>
  by_cases h0:l=[]
  . subst h0;exact .inl ⟨rfl,_,_,rfl⟩
  . have hsz:sz=3:=by
     obtain⟨x,l',rfl⟩:=B9 h0;exact(hn 0 x rfl).symm
    subst hsz;refine .inr ⟨b,off,cap,arr,e,fz,rfl,hb,hc,hl,fun i hi=>?_⟩;have hx:l[i]? =some l[i]:=Ag hi;have e0:=h1 i _ 0 _ hx rfl;have e1:=h1 i _ 1 _ hx rfl;have e2:=h1 i _ 2 _ hx rfl;rw[gZ (h2 i _ 0 _ hx rfl)]at e0;rw[gZ (h2 i _ 1 _ hx rfl)]at e1;rw[gZ (h2 i _ 2 _ hx rfl)]at e2;grind
theorem Zr [Inhabited aF] {w:World} {l:List aq} {v:Value} (h:cH w l v):Rd w (fun _=>True) true (cL l) v:=by
 unfold cL;rcases h with⟨rfl,a,c,rfl⟩|⟨b,off,cap,arr,e,fz,rfl,hb,hc,hl,hi⟩
 . exact .bP rfl rfl a c
 . refine .bh b off cap arr e fz 3 (fun i j=>(arr[off+i*3+j]?).getD (.bool false)) trivial hb (by decide) hl (fun _ _ _=>rfl) hc (fun i x j v hx hv=>?_) (fun i x j v hx hv=>?_)
   all_goals
    have hil:i<l.length:=(Ae.1 hx).1;have hxe:l[i]=x:=(Ae.1 hx).2;obtain⟨e0,e1,e2⟩:=hi i hil;rw[hxe]at e0 e1 e2;have hj:j<3:=(Ae.1 hv).1;match j,hj with
    |0,_=>cases hv;first|exact e0.trans (by rw[Bx,e0];rfl)|(simp only[Bx,e0,Bi];exact .int _ _)
    |1,_=>cases hv;first|exact e1.trans (by rw[e1];rfl)|(simp only[e1,Bi];exact .int _ _)
    |2,_=>cases hv;first|exact e2.trans (by rw[e2];rfl)|(simp only[e2,Bi];exact .int _ _)
theorem cH.cells {w w':World} (hc:jk w w') {l:List aq} {v:Value} (h:cH w l v):cH w' l v:=by
 rcases h with h|⟨b,off,cap,arr,e,fz,h1,h2,h3⟩
 . exact .inl h
 . exact .inr ⟨b,off,cap,arr,e,fz,h1,hc _ _ _ _ h2,h3⟩
abbrev cw (s:Bs):Value:= .string ⟨s.toArray⟩
def gT (e:ae) (v:Value):Value:= .agg #[.int .i64 e.dot.dev, .int .i64 e.dot.inc, .int .i64 e.dot.seq, .int .i64 e.bL.wall, .int .i64 e.bL.count, .int .i64 e.bL.dev, .int .i64 e.kind,cw e.key.name,cw e.key.domain,cw e.key.path,
 cw e.aa.value, .bool e.aa.aH, .bool e.aa.aR, .bool e.aa.aI, .bool e.aa.persistent, .int .i64 e.aa.aW, .int .i64 e.aa.aj, .int .i64 e.aa.access,v]
def ja (w:World) (u:Value) (e:ae):Prop:=∃v,u=gT e v/\cH w e.over v
theorem ja.cells {w w':World} (hc:jk w w') {u:Value} {e:ae} (h:ja w u e):ja w' u e:=by
 obtain⟨v,h1,h2⟩:=h;exact⟨v,h1,h2.cells hc⟩
def qZ (x:Value×ae):Value:=x.1
def o8 (x:Nat×DL):Value:= .map (some x.1)
structure cK (w:World) (n b bk ba bd bs bv:Nat) (G:bg):Prop where
 c0:w.cell? ⟨b,0,none⟩=some (.map (some bk))
 c1:w.cell? ⟨b,1,none⟩=some (.map (some ba))
 c2:w.cell? ⟨b,2,none⟩=some (.map (some bd))
 c3:w.cell? ⟨b,3,none⟩=some (.pointer (some ⟨bs,0,none⟩))
 cv:w.cell? ⟨bs,0,none⟩=some (.map (some bv))
 iC:ay w bk bJ qZ G.kept
 ma:ay w ba cZ o8 G.alive
 md:ay w bd bJ cD G.dead
 mv:ay w bv eI cD G.vec
 mi:∀x∈G.alive,ay w x.2.1 bJ cD x.2.2
 nd:(bk::ba::bd::bv::G.alive.map (·.2.1)).Nodup
 low:∀j∈b::bs::bk::ba::bd::bv::G.alive.map (·.2.1),n<=j
 ev:∀x∈G.kept,ja w x.2.1 x.2.2
def dR (bk ba bd bv:Nat) (G:bg) (j:Nat):Prop:=j∈bk::ba::bd::bv::G.alive.map (·.2.1)
def lO (w:World) (j:Nat):Prop:=∃es clk,w.heap[j]? =some (.map es clk)
section
variable {K V:Type} [DecidableEq K]
theorem _root_.Go.Gm.ay.isMap {w:World} {b:Nat} {enc:K->Value} {encV:V->Value} {L:List (K×V)} (h:ay w b enc encV L):lO w b:=by
 obtain⟨es,clk,h,_⟩:=h.at_;exact⟨es,clk,h⟩
theorem _root_.Go.Gm.ay.lt {w:World} {b:Nat} {enc:K->Value} {encV:V->Value} {L:List (K×V)} (h:ay w b enc encV L):b<w.heap.size:=by
 obtain⟨es,clk,h,_⟩:=h.at_;grind
theorem _root_.Go.Gm.ay.repr {w:World} {b:Nat} {enc:K->Value} {encV:V->Value} {L L':List (K×V)} (h:ay w b enc encV L) (hk:L'.map (·.1)=L.map (·.1)) (hv:L'.map (fun x=>(enc x.1,encV x.2))=L.map fun x=>(enc x.1,encV x.2)):ay w b enc encV L':=by
 obtain⟨⟨es,clk,h1,h2,h3⟩,h4⟩:=h;exact⟨⟨es,clk,h1,h2.trans hv.symm,h3⟩,by rw[hk];exact h4⟩
end
theorem iI {w:World} {b o:Nat} {v:Value} (h:w.cell? ⟨b,o,none⟩=some v):b<w.heap.size:=by
 grind [World.cell?]
theorem wv {w:World} {b o:Nat} {v:Value} (h:w.cell? ⟨b,o,none⟩=some v):¬lO w b:=by
 rintro⟨es,clk,e⟩;grind [World.cell?]
theorem ep {w w':World} {b o:Nat} {v:Value} (h:w.cell? ⟨b,o,none⟩=some v) (e:w'.heap[b]? =w.heap[b]?):w'.cell? ⟨b,o,none⟩=some v:=by
 grind [World.cell?]
theorem eT.cells {S:Nat->Prop} {w w':World} (h:eT S w w') (hS:∀k,S k->lO w k):jk w w':=by
 intro b arr e fz hb;rw[h.block b (Ab.1 hb).1 ?_]
 . exact hb
 . intro hs;obtain⟨es,clk,hm⟩:=hS b hs;rw[hb]at hm;cases hm
theorem dS {w w':World} (h:Below w.heap.size w w'):jk w w':=fun b arr e fz hb=>by
 rw[h.block b (Ab.1 hb).1];exact hb
section
variable {w w':World} {n b bk ba bd bs bv:Nat} {G:bg}
theorem cK.maps (h:cK w n b bk ba bd bs bv G):∀k,dR bk ba bd bv G k->lO w k:=by
 intro k hk;unfold dR at hk;simp only[Ap,Aw]at hk;rcases hk with rfl|rfl|rfl|rfl|⟨x,hx,rfl⟩
 . exact Go.Gm.ay.isMap h.iC
 . exact Go.Gm.ay.isMap h.ma
 . exact Go.Gm.ay.isMap h.md
 . exact Go.Gm.ay.isMap h.mv
 . exact Go.Gm.ay.isMap (h.mi x hx)
theorem cK.bn (h:cK w n b bk ba bd bs bv G) (hc:jk w w') (hm:∀k,dR bk ba bd bv G k->w'.heap[k]? =w.heap[k]?):cK w' n b bk ba bd bs bv G:=by
 have cc:∀{b o:Nat} {v:Value},w.cell? ⟨b,o,none⟩=some v->w'.cell? ⟨b,o,none⟩=some v:=by
  intro b o v hv;refine ep hv ?_;unfold World.cell? at hv
  cases e:w.heap[b]? with
  |none=>grind
  |some q=>
   cases q with
   |cells arr t fz=>exact hc _ _ _ _ e
   |_=>simp[e]at hv
 refine⟨cc h.c0,cc h.c1,cc h.c2,cc h.c3,cc h.cv,h.iC.same (hm _ ?_),h.ma.same (hm _ ?_),h.md.same (hm _ ?_),h.mv.same (hm _ ?_),fun x hx=>(h.mi x hx).same (hm _ ?_),h.nd,h.low,fun x hx=>(h.ev x hx).cells hc⟩
 all_goals grind [dR]
theorem cK.below (h:cK w n b bk ba bd bs bv G) (hb:Below w.heap.size w w'):cK w' n b bk ba bd bs bv G:=
 h.bn (dS hb) fun k hk=>by
  obtain⟨es,clk,hm⟩:=h.maps k hk;exact hb.block k (Ab.1 hm).1
theorem I8 {j:Nat} {o:Obj} (hj:lO w j):jk w (World.aU w j o):=by
 intro b arr e fz hb;obtain⟨es,clk,hm⟩:=hj;rw[mK hm,An (fun e=>by grind)];exact hb
theorem cK.mT (h:cK w n b bk ba bd bs bv G) {j:Nat} (hj:dR bk ba bd bv G j) {o:Obj} {G':bg}
  (hk:ay (World.aU w j o) bk bJ qZ G'.kept) (ha:ay (World.aU w j o) ba cZ o8 G'.alive) (hd:ay (World.aU w j o) bd bJ cD G'.dead) (hv:ay (World.aU w j o) bv eI cD G'.vec)
  (hi:∀x∈G'.alive,ay (World.aU w j o) x.2.1 bJ cD x.2.2) (hnd:(bk::ba::bd::bv::G'.alive.map (·.2.1)).Nodup) (hlow:∀x∈G'.alive,n<=x.2.1) (hev:∀x∈G'.kept,ja w x.2.1 x.2.2):cK (World.aU w j o) n b bk ba bd bs bv G':=by
 have hc:=I8 (o:=o) (h.maps j hj);have cc:∀{b o':Nat} {v:Value},w.cell? ⟨b,o',none⟩=some v->(World.aU w j o).cell? ⟨b,o',none⟩=some v:=by
  intro b o' v hcell;refine ep hcell ?_;obtain⟨es,clk,hm⟩:=h.maps j hj;rw[mK hm,An (fun e:b=j=>wv hcell (by rw[e];exact⟨es,clk,hm⟩))]
 refine⟨cc h.c0,cc h.c1,cc h.c2,cc h.c3,cc h.cv,hk,ha,hd,hv,hi,hnd,fun k hk'=>?_,fun x hx=>(hev x hx).cells hc⟩;simp only[Ap,Aw]at hk';rcases hk' with rfl|rfl|rfl|rfl|rfl|rfl|⟨x,hx,rfl⟩
 all_goals first|exact hlow x hx|(refine h.low _ ?_;simp)
theorem cK.ne (h:cK w n b bk ba bd bs bv G):bk≠ba/\bk≠bd/\bk≠bv/\ba≠bd/\ba≠bv/\bd≠bv:=by
 have:=h.nd;grind
theorem cK.sh (h:cK w n b bk ba bd bs bv G) {x:aD×(Nat×DL)} (hx:x∈G.alive):x.2.1≠bk/\x.2.1≠ba/\x.2.1≠bd/\x.2.1≠bv:=by
 have:=h.nd;grind
theorem gm {j i:Nat} {o:Obj} (h:lO w j) (hne:i≠j):(World.aU w j o).heap[i]? =w.heap[i]? :=by
 obtain⟨es,clk,hm⟩:=h;rw[mK hm,An hne]
end
end
theorem QL (w:World):Calls Tryz.prog 58 #[] w fun e w'=>e= .returned (.pointer (some ⟨w.heap.size+1,0,none⟩))/\w'=(w.alloc (.map #[] 0)).alloc (.cells #[.map (some w.heap.size)] 136):=by
 have hmm:= @run_makeMap Tryz.prog;go_enter Tryz.func58,Tryz.ntmps58
 go_wp2;go_ret;simp_all
theorem mJ (w:World) (o:Obj) (i:Nat):(w.alloc o).heap[i]? =if i=w.heap.size then some o else w.heap[i]? :=by
 show(w.heap.push o)[i]? =_
 rw[Array.getElem?_push]
theorem u4 (w:World) (arr:Array Value) (e:TypeId) (fz:Nat×Nat) (i o:Nat):(w.alloc (.cells arr e fz)).cell? ⟨i,o,none⟩=if i=w.heap.size then arr[o]? else w.cell? ⟨i,o,none⟩:=by
 grind [World.cell?,mJ]
theorem sD {K V:Type} [DecidableEq K] {w:World} {b:Nat} {enc:K->Value} {encV:V->Value} (h:w.heap[b]? =some (.map #[] 0)):ay w b enc encV ([]:List (K×V)):=
 ⟨⟨#[],0,h,by simp[gV],by simp,by simp⟩,by simp⟩
theorem GQ (w:World):Calls Tryz.prog 26 #[] w fun e w'=>∃b bk ba bd bs bv,e= .returned (.pointer (some ⟨b,0,none⟩))/\cK w' w.heap.size b bk ba bd bs bv ⟨[],[],[],[]⟩/\Below w.heap.size w w':=by
 have hmm:= @run_makeMap Tryz.prog;go_enter Tryz.func26,Tryz.ntmps26
 go_wp2_with (go_at_call 58;refine(QL _).mono ?_;rintro e w1 ⟨rfl,rfl⟩)
 go_ret;refine⟨w.heap.size+5,w.heap.size,w.heap.size+1,w.heap.size+2,w.heap.size+4,w.heap.size+3,rfl,?_,?_⟩
 . refine⟨by simp[u4],by simp[u4],by simp[u4],by simp[u4],by simp[u4],sD (by grind [mJ,World.size_alloc]),sD (by grind [mJ,World.size_alloc]),sD (by grind [mJ,World.size_alloc]),sD (by grind [mJ,World.size_alloc]),fun x hx=>(by cases hx),by simp,by simp,fun x hx=>(by cases hx)⟩
 . refine Below.alloc (Below.alloc (Below.alloc (Below.alloc (Below.alloc (Below.alloc (Below.refl _ _) ?_ _) ?_ _) ?_ _) ?_ _) ?_ _) ?_ _
   all_goals (simp;try omega)
theorem Tryz.room {w:World} {n b bk ba bd bs bv:Nat} {G:bg} (h:cK w n b bk ba bd bs bv G) (hl:G.kept.length<=100000):Calls Tryz.prog 51 #[.pointer (some ⟨b,0,none⟩), .int .i64 1] w fun e w'=>e= .returned (.bool (decide (1<=2048 - (G.kept.length:Int))))/\w'=w:=by
 obtain⟨es,clk,hb,hsz⟩:=h.iC.len;have c0:=h.c0;have hlen:(Builtin.len_ #[102] 3 #[.map (some bk)]).run Tryz.prog w= .ok (.int .i64 G.kept.length) w:=by
  rw[run_len_map w 102 3 bk es clk (by simp[Program.mapKeyOf,Program.mapElemOf,Tryz.underlying102]) hb,hsz];rfl
 have hwr:wrap64 (2048 - (G.kept.length:Int))=2048 - (G.kept.length:Int):=by
  grind [IntWalk.wrap64_in]
 clear h hb;go_enter Tryz.func51,Tryz.ntmps51
 go_wp2;go_ret;simp_all
theorem PS {w:World} {bd:Nat} {L:DL} (hm:ay w bd bJ cD L) (d:aq):(Instr.lookup 104 (.map (some bd)) (bJ d) true).run Tryz.prog w= .ok (.tuple #[.int .i64 ((aB L d).getD 0), .bool (aB L d).isSome]) w:=by
 rw[hm.lookup iR Tryz.underlying104 (vG w) d true]
 cases aB L d<;>rfl
theorem Tryz.dead {w:World} {n b bk ba bd bs bv:Nat} {G:bg} (h:cK w n b bk ba bd bs bv G) (d:aq):Calls Tryz.prog 54 #[.pointer (some ⟨b,0,none⟩),bJ d] w fun e w'=>e= .returned (.bool (aB G.dead d).isSome)/\Below w.heap.size w w':=by
 have hb:Below w.heap.size w (w.alloc (.cells #[.int .i64 d.dev, .int .i64 d.inc, .int .i64 d.seq] 70)).drew:=((Below.refl w.heap.size w).alloc (Ad _) _).drew;have h1:=h.below hb;have hlk:=PS h1.md d;have c2:=h1.c2;unfold bJ at hlk⊢;clear h h1;go_enter Tryz.func54,Tryz.ntmps54
 go_wp2_with fail
 go_region
 go_wp2;go_ret;simp_all
section
section
variable {K V:Type} [DecidableEq K]
theorem xM {A:List (K×V)} {k:K} {v:V} {x:K×V} (h:x∈cq A k v):x=(k,v)\/(x∈A/\x.1≠k):=by
 grind [cq]
theorem uU {β:Type} {A:List (K×V)} {k:K} {u v:V} {f:K×V->β} (hn:(A.map (·.1)).Nodup) (h:aB A k=some u) (hf:f (k,v)=f (k,u)):(cq A k v).map f=A.map f:=by
 have hm:=mG h;grind [cq,List.map_congr_left,Fj]
theorem SN {β:Type} {A:List (K×V)} {k:K} {v:V} {f:K×V->β} (h:aB A k=none):(cq A k v).map f=A.map f++[f (k,v)]:=by
 grind [cq,cR]
theorem Zq (A:List (K×V)) (k:K) (u v:V):cq (cq A k u) k v=cq A k v:=by
 by_cases h:k∈A.map (·.1)
 . have h1:cq A k u=A.map (fun x=>if k=x.1 then(k,u)else x):=Al h;have h2:cq A k v=A.map (fun x=>if k=x.1 then(k,v)else x):=Al h;have h3:k∈(cq A k u).map (·.1):=by rw[mem_keys,jw];simp
   have h4:cq (cq A k u) k v=(cq A k u).map (fun x=>if k=x.1 then(k,v)else x):=Al h3;rw[h4,h1,h2,Dd];refine By fun x _=>?_
   grind
 . have h1:cq A k u=A++[(k,u)]:=An h;have h2:cq A k v=A++[(k,v)]:=An h;have h3:k∈(cq A k u).map (·.1):=by rw[mem_keys,jw];simp
   have h4:cq (cq A k u) k v=(cq A k u).map (fun x=>if k=x.1 then(k,v)else x):=Al h3;rw[h4,h1,h2,Br];congr 1
   . conv=>rhs;rw[<-EH A]
     grind [List.map_congr_left]
   . simp
end
theorem eT.more {S T:Nat->Prop} {a b c:World} (h:eT S a b) (k:eT T b c) (hT:∀i,i<a.heap.size->T i->S i):eT S a c:=
 ⟨k.os.trans h.os,k.tape.trans h.tape,k.output.trans h.output,Ar h.size k.size,fun i hi hS=>(k.block i (AR hi h.size) fun ht=>hS (hT i hi ht)).trans (h.block i hi hS)⟩
section
variable {w w':World} {n b bk ba bd bs bv:Nat} {G:bg}
theorem cK.iO (h:cK w n b bk ba bd bs bv G) {k:aD} {j:Nat} {L L':DL} (hj:aB G.alive k=some (j,L)) {o:Obj} (hm:ay (World.aU w j o) j bJ cD L'):cK (World.aU w j o) n b bk ba bd bs bv {G with alive:=cq G.alive k (j,L')}:=by
 have hjm:=mG hj;have hmap:=ay.isMap (h.mi _ hjm);obtain⟨n1,n2,n3,n4⟩:=h.sh hjm;have hblk:(cq G.alive k (j,L')).map (·.2.1)=G.alive.map (·.2.1):=uU h.ma.nd hj rfl;refine h.mT (j:=j) (by unfold dR;simp only[Ap,Aw];grind) (h.iC.same (gm hmap n1.symm)) ((h.ma.same (gm hmap n2.symm)).repr (uU h.ma.nd hj rfl) (uU h.ma.nd hj rfl)) (h.md.same (gm hmap n3.symm)) (h.mv.same (gm hmap n4.symm)) (fun x hx=>?_) ?_ (fun x hx=>?_) h.ev
 . rcases xM hx with rfl|⟨hx,hk⟩
   . exact hm
   . refine(h.mi x hx).same (gm hmap fun e=>?_);have hnd:=h.nd;simp only[Du]at hnd;have hnd:=hnd.2.2.2.2;have:∀{A:List (aD×(Nat×DL))},(A.map (·.2.1)).Nodup->x∈A->(k,(j,L))∈A->x=(k,(j,L)):=by
      intro A;induction A with
      |nil=>grind
      |cons y A ih=>
       grind
     have:=this hnd hx hjm;rw[this]at hk;grind
 . show(bk::ba::bd::bv::(cq G.alive k (j,L')).map (·.2.1)).Nodup
   rw[hblk];exact h.nd
 . have:x.2.1∈(cq G.alive k (j,L')).map (·.2.1):=Aw.2 ⟨x,hx,rfl⟩;rw[hblk]at this;refine h.low _ ?_;grind
theorem cK.kC (h:cK w n b bk ba bd bs bv G) {k:aD} {j:Nat} (hn:aB G.alive k=none) {o:Obj} (hj:ay w j bJ cD ([]:DL)) (hjn:¬dR bk ba bd bv G j) (hlow:n<=j) (hm:ay (World.aU w ba o) ba cZ o8 (cq G.alive k (j,[]))):
   cK (World.aU w ba o) n b bk ba bd bs bv {G with alive:=cq G.alive k (j,[])}:=by
 have hmap:=ay.isMap h.ma;obtain⟨n1,n2,n3,n4,n5,n6⟩:=h.ne;have hblk:(cq G.alive k (j,[])).map (·.2.1)=G.alive.map (·.2.1)++[j]:=SN hn;unfold dR at hjn;simp only[Ap,not_or]at hjn;refine h.mT (j:=ba) (by grind [dR]) (h.iC.same (gm hmap n1)) hm (h.md.same (gm hmap n4.symm)) (h.mv.same (gm hmap n5.symm)) (fun x hx=>?_) ?_ (fun x hx=>?_) h.ev
 . rcases xM hx with rfl|⟨hx,hk⟩
   . exact hj.same (gm hmap hjn.2.1)
   . exact(h.mi x hx).same (gm hmap (h.sh hx).2.1)
 . show(bk::ba::bd::bv::(cq G.alive k (j,[])).map (·.2.1)).Nodup
   rw[hblk];have h1:(bk::ba::bd::bv::(G.alive.map (·.2.1)++[j]))=(bk::ba::bd::bv::G.alive.map (·.2.1))++[j]:=by simp
   rw[h1,List.nodup_append];refine⟨h.nd,by simp,fun a ha c hc=>?_⟩;rw[Dx]at hc;grind
 . rcases xM hx with rfl|⟨hx,hk⟩
   . omega
   . refine h.low _ ?_;grind
theorem cK.pj (h:cK w n b bk ba bd bs bv G) {D:DL} {o:Obj} (hm:ay (World.aU w bd o) bd bJ cD D):cK (World.aU w bd o) n b bk ba bd bs bv {G with dead:=D}:=by
 have hmap:=ay.isMap h.md;obtain⟨n1,n2,n3,n4,n5,n6⟩:=h.ne;exact h.mT (j:=bd) (by grind [dR]) (h.iC.same (gm hmap n2)) (h.ma.same (gm hmap n4)) hm (h.mv.same (gm hmap n6.symm)) (fun x hx=>(h.mi x hx).same (gm hmap (h.sh hx).2.2.1)) h.nd (fun x hx=>h.low _ (by grind)) h.ev
theorem cK.pn (h:cK w n b bk ba bd bs bv G) {d:aq} {x:Value×ae} {o:Obj} (hx:ja w x.1 x.2) (hm:ay (World.aU w bk o) bk bJ qZ (cq G.kept d x)):cK (World.aU w bk o) n b bk ba bd bs bv {G with kept:=cq G.kept d x}:=by
 have hmap:=ay.isMap h.iC;obtain⟨n1,n2,n3,n4,n5,n6⟩:=h.ne;refine h.mT (j:=bk) (by grind [dR]) hm (h.ma.same (gm hmap n1.symm)) (h.md.same (gm hmap n2.symm)) (h.mv.same (gm hmap n3.symm)) (fun x hx=>(h.mi x hx).same (gm hmap (h.sh hx).1)) h.nd (fun x hx=>h.low _ (by grind)) (fun y hy=>?_);rcases xM hy with rfl|⟨hy,_⟩
 . exact hx
 . exact h.ev y hy
theorem cK.kr (h:cK w n b bk ba bd bs bv G) {k:aD} {o:Obj} (hm:ay (World.aU w ba o) ba cZ o8 (di G.alive k)):cK (World.aU w ba o) n b bk ba bd bs bv {G with alive:=di G.alive k}:=by
 have hmap:=ay.isMap h.ma;obtain⟨n1,n2,n3,n4,n5,n6⟩:=h.ne;have hsub:∀x∈di G.alive k,x∈G.alive:=fun x hx=>(As.1 hx).1
 refine h.mT (j:=ba) (by grind [dR]) (h.iC.same (gm hmap n1)) hm (h.md.same (gm hmap n4.symm)) (h.mv.same (gm hmap n5.symm)) (fun x hx=>(h.mi x (hsub x hx)).same (gm hmap (h.sh (hsub x hx)).2.1)) ?_ (fun x hx=>h.low _ (by grind)) h.ev;refine Dz ?_ h.nd;exact((((List.filter_sublist.map _).cons₂ _).cons₂ _).cons₂ _).cons₂ _
end
theorem jT {w:World} {ba:Nat} {A:List (aD×(Nat×DL))} (hm:ay w ba cZ o8 A) (k:aD):(Instr.lookup 103 (.map (some ba)) (cZ k) false).run Tryz.prog w= .ok (.map ((aB A k).map (·.1))) w:=by
 rw[hm.lookup yY Tryz.underlying103 (z:= .map none) (by simp_all) k false]
 cases aB A k<;>rfl
theorem qC {w:World} {j b o:Nat} {x:Obj} {v:Value} (hj:lO w j) (h:w.cell? ⟨b,o,none⟩=some v):(World.aU w j x).cell? ⟨b,o,none⟩=some v:=
 ep h (gm hj fun e=>wv h (by rw[e];exact hj))
theorem CD (e:ae) (v:Value):gT e v= .agg #[.int .i64 e.dot.dev, .int .i64 e.dot.inc, .int .i64 e.dot.seq, .int .i64 e.bL.wall, .int .i64 e.bL.count, .int .i64 e.bL.dev, .int .i64 e.kind,cw e.key.name,cw e.key.domain,cw e.key.path,
 cw e.aa.value, .bool e.aa.aH, .bool e.aa.aR, .bool e.aa.aI, .bool e.aa.persistent, .int .i64 e.aa.aW, .int .i64 e.aa.aj, .int .i64 e.aa.access,v]:=rfl
theorem OQ (b:Nat) (w:World):(binOp BinOp.eql 104 (.map (some b)) (.map none)).run Tryz.prog w= .ok (.bool false) w:=by kernel_rfl
theorem OY {w:World} {n b bk ba bd bs bv:Nat} {G:bg} (h:cK w n b bk ba bd bs bv G) (e:ae) (v:Value) {j:Nat} {L:DL} (hj:aB G.alive e.key=some (j,L)):
   Calls Tryz.prog 55 #[.pointer (some ⟨b,0,none⟩),gT e v] w fun e' w'=>e'= .returned (.tuple #[])/\eT (dR bk ba bd bv G) w w'/\cK w' n b bk ba bd bs bv {G with alive:=cq G.alive e.key (j,cq L e.dot 1)}:=by
 rw[CD];obtain⟨W,hW⟩:∃W,(w.alloc (.cells #[.int .i64 e.dot.dev, .int .i64 e.dot.inc, .int .i64 e.dot.seq, .int .i64 e.bL.wall, .int .i64 e.bL.count, .int .i64 e.bL.dev, .int .i64 e.kind,cw e.key.name,cw e.key.domain,cw e.key.path,
   cw e.aa.value, .bool e.aa.aH, .bool e.aa.aR, .bool e.aa.aI, .bool e.aa.persistent, .int .i64 e.aa.aW, .int .i64 e.aa.aj, .int .i64 e.aa.access,v] 78))=W:=⟨_,rfl⟩
 have hb:Below w.heap.size w W:=by rw[<-hW];exact(Below.refl w.heap.size w).alloc (Ad _) _
 have h0:=h.below hb;go_enter Tryz.func55,Tryz.ntmps55
 go_wp2_with fail
 have k7:W.cell? ⟨w.heap.size,7,none⟩=some (cw e.key.name):=by rw[<-hW];simp
 have k8:W.cell? ⟨w.heap.size,8,none⟩=some (cw e.key.domain):=by rw[<-hW];simp
 have k9:W.cell? ⟨w.heap.size,9,none⟩=some (cw e.key.path):=by rw[<-hW];simp
 have d0:W.cell? ⟨w.heap.size,0,none⟩=some (.int .i64 e.dot.dev):=by rw[<-hW];simp
 have d1:W.cell? ⟨w.heap.size,1,none⟩=some (.int .i64 e.dot.inc):=by rw[<-hW];simp
 have d2:W.cell? ⟨w.heap.size,2,none⟩=some (.int .i64 e.dot.seq):=by rw[<-hW];simp
 have h1:=h0.below (Below.refl W.heap.size W).drew;have c1:=h0.c1;have hlk:=jT h1.ma e.key;rw[hj]at hlk;have hjm:(e.key,(j,L))∈G.alive:=mG hj;have h2:=h1.below (Below.refl W.drew.heap.size W.drew).drew;obtain⟨es,clk,hu,hmu⟩:=(h2.mi _ hjm).update iR Tryz.underlying104 e.dot 1;have hlk2:=jT h2.ma e.key;rw[hj]at hlk2;have hnil:=fun w=>OQ j w
 rw[show cZ e.key= .agg #[cw e.key.name,cw e.key.domain,cw e.key.path]from rfl]at hlk hlk2;unfold bJ cD at hu;clear h0 h hW;go_region
 go_wp2_with fail
 go_region
 go_wp2;go_end0
 refine⟨rfl,?_,h2.iO hj hmu⟩;refine(lZ (hb.drew.drew)).more (T:=(· =j)) ⟨rfl,rfl,rfl,by simp[World.aU],fun k _ hk=>?_⟩ ?_
 . exact gm (ay.isMap (h2.mi _ hjm)) hk
 . rintro i _ rfl;unfold dR;simp only[Ap,Aw];grind
theorem OX {w:World} {n b bk ba bd bs bv:Nat} {G:bg} (h:cK w n b bk ba bd bs bv G) (hn:n<=w.heap.size) (e:ae) (v:Value) (hj:aB G.alive e.key=none):
  Calls Tryz.prog 55 #[.pointer (some ⟨b,0,none⟩),gT e v] w fun e' w'=>e'= .returned (.tuple #[])/\eT (dR bk ba bd bv G) w w'/\ ∃j,w.heap.size<=j/\cK w' n b bk ba bd bs bv {G with alive:=cq G.alive e.key (j,[(e.dot,1)])}:=by
 rw[CD];obtain⟨W,hW⟩:∃W,(w.alloc (.cells #[.int .i64 e.dot.dev, .int .i64 e.dot.inc, .int .i64 e.dot.seq, .int .i64 e.bL.wall, .int .i64 e.bL.count, .int .i64 e.bL.dev, .int .i64 e.kind,cw e.key.name,cw e.key.domain,cw e.key.path,
  cw e.aa.value, .bool e.aa.aH, .bool e.aa.aR, .bool e.aa.aI, .bool e.aa.persistent, .int .i64 e.aa.aW, .int .i64 e.aa.aj, .int .i64 e.aa.access,v] 78))=W:=⟨_,rfl⟩
 have hb:Below w.heap.size w W:=by rw[<-hW];exact(Below.refl w.heap.size w).alloc (Ad _) _
 have h0:=h.below hb;have hmm:= @run_makeMap Tryz.prog;go_enter Tryz.func55,Tryz.ntmps55
 go_wp2_with fail
 have k7:W.cell? ⟨w.heap.size,7,none⟩=some (cw e.key.name):=by rw[<-hW];simp
 have k8:W.cell? ⟨w.heap.size,8,none⟩=some (cw e.key.domain):=by rw[<-hW];simp
 have k9:W.cell? ⟨w.heap.size,9,none⟩=some (cw e.key.path):=by rw[<-hW];simp
 have d0:W.cell? ⟨w.heap.size,0,none⟩=some (.int .i64 e.dot.dev):=by rw[<-hW];simp
 have d1:W.cell? ⟨w.heap.size,1,none⟩=some (.int .i64 e.dot.inc):=by rw[<-hW];simp
 have d2:W.cell? ⟨w.heap.size,2,none⟩=some (.int .i64 e.dot.seq):=by rw[<-hW];simp
 have hsz:W.heap.size=w.heap.size+1:=by rw[<-hW];simp
 have h1:=h0.below (Below.refl W.heap.size W).drew;have c1:=h0.c1;have hlk:=jT h1.ma e.key;rw[hj]at hlk;have hnew:Below W.heap.size W (W.alloc (.map #[] 0)).drew.drew:=((Below.refl W.heap.size W).alloc (Ad _) _).drew.drew;have h2:=h0.below hnew;have hjn:¬dR bk ba bd bv G W.heap.size:=fun hm=>by
  obtain⟨es,clk,hx⟩:=h0.maps _ hm;have:=(Ab.1 hx).1;omega
 have hfr:ay (W.alloc (.map #[] 0)).drew.drew W.heap.size bJ cD ([]:DL):=sD (by show(W.alloc (.map #[] 0)).heap[W.heap.size]? =_;rw[mJ];simp);obtain⟨es,clk,hu,hmu⟩:=h2.ma.update yY Tryz.underlying103 e.key ((W.heap.size,[]):Nat×DL);have h3:=h2.kC hj hfr hjn (by omega) hmu;have up:∀{o:Nat} {x:Value},W.cell? ⟨w.heap.size,o,none⟩=some x->(W.alloc (.map #[] 0)).cell? ⟨w.heap.size,o,none⟩=some x:=fun hx=>(((Below.refl W.heap.size W).alloc (Ad _) _).cell (by rw[hsz];grind)).trans hx
 have k7':=up k7;have k8':=up k8;have k9':=up k9;have d0':=up d0;have d1':=up d1;have d2':=up d2;have c1':(W.alloc (.map #[] 0)).cell? ⟨b,1,none⟩=some (.map (some ba)):=h2.c1;rw[hsz]at hu;clear up h0 h hW;rw[show cZ e.key= .agg #[cw e.key.name,cw e.key.domain,cw e.key.path]from rfl]at hlk hu;rw[show o8 (w.heap.size+1,[])= .map (some (w.heap.size+1))from rfl]at hu;have hnil:∀w,(binOp BinOp.eql 104 (.map none) (.map none)).run Tryz.prog w= .ok (.bool true) w:=fun w=>by kernel_rfl
 go_region
 go_wp2_with fail
 have hmb:lO (W.alloc (.map #[] 0)).drew.drew ba:=ay.isMap h2.ma;obtain⟨W3,hW3⟩:∃W3,World.aU (W.alloc (.map #[] 0)).drew.drew ba (.map es clk)=W3:=⟨_,rfl⟩;have up3:∀{o:Nat} {x:Value},(W.alloc (.map #[] 0)).cell? ⟨w.heap.size,o,none⟩=some x->W3.cell? ⟨w.heap.size,o,none⟩=some x:=fun hx=>by rw[<-hW3];exact qC hmb hx
 have k7'':=up3 k7';have k8'':=up3 k8';have k9'':=up3 k9';have d0'':=up3 d0';have d1'':=up3 d1';have d2'':=up3 d2';have hbut:eT (dR bk ba bd bv G) w W3:=by
  refine(lZ (hb.trans (hnew.mono hb.size))).more (T:=(· =ba)) ⟨by rw[<-hW3];rfl,by rw[<-hW3];rfl,by rw[<-hW3];rfl,by rw[<-hW3];simp[World.aU],fun k _ hk=>by rw[<-hW3];grind [gm]⟩ ?_;grind [dR]
 rw[hW3]at h3 hu;have c1'':=h3.c1;have h4:=h3.below (Below.refl W3.heap.size W3).drew;have hget:aB (cq G.alive e.key (W.heap.size,[])) e.key=some (W.heap.size,[]):=by rw[jw];simp
 have hlk3:=jT h4.ma e.key;rw[hget,show cZ e.key= .agg #[cw e.key.name,cw e.key.domain,cw e.key.path]from rfl]at hlk3;obtain⟨es2,clk2,hu2,hmu2⟩:=(h4.mi _ (mG hget)).update iR Tryz.underlying104 e.dot 1;rw[show bJ e.dot= .agg #[.int .i64 e.dot.dev, .int .i64 e.dot.inc, .int .i64 e.dot.seq]from rfl,show cD 1= .int .i64 1 from rfl]at hu2;have hj2:lO W3 W.heap.size:=ay.isMap (h3.mi _ (mG hget));have h5:=h4.iO hget hmu2;rw[Zq]at h5;simp only[hsz,Bz]at hlk3 hu2;clear h1 h2 h3 h4 hfr hmu hmu2 hget hmb;go_region
 go_wp2_with fail
 go_region
 go_wp2;go_end0
 rw[hsz]at h5 hj2;refine⟨rfl,hbut.more (T:=(· =w.heap.size+1)) ⟨rfl,rfl,rfl,by simp[World.aU],fun k _ hk=>gm (w:=W3.drew) hj2 hk⟩ (fun i hi e=>by omega),_,Ee _,h5⟩
end
end Go.Proofs
namespace Go.Gm
open Go Go.RowKit Go.Maps Go.Proofs Go.ChangeMaps
section
variable {P:Program} {K V:Type} [DecidableEq K]
structure cC (w:World) (r b:Nat) (enc:K->Value) (encV:V->Value) (L ss left:List (K×V)):Prop where
 ex:∃es clk seen,w.heap[b]? =some (.map es clk)/\gV enc encV es.toList L/\(es.toList.map (·.born)).Pairwise (· < ·)/\(∀e∈es.toList,e.born<clk)/\w.heap[r]? =some (.mapIter (some b) clk seen clk)/\gV enc encV (leftOf es seen).toList left
 perm:(ss++left).Perm L
theorem QY:∀{l:List Nat},l.Pairwise (· < ·)->l.Nodup:=fun h=>h.imp fun h=>Nat.ne_of_lt h
theorem ay.range {w:World} {b:Nat} {enc:K->Value} {encV:V->Value} {L:List (K×V)} (h:ay w b enc encV L) {t T Te:TypeId} (ht:P.underlying t=some (.map T Te)):
  ∃w',(Instr.range t (.map (some b))).run P w= .ok (.pointer (some ⟨w.heap.size,0,none⟩)) w'/\cC w' w.heap.size b enc encV L [] L/\Below w.heap.size w w'/\w'.heap.size=w.heap.size+1:=by
 obtain⟨⟨es,clk,hb,hr,hs,hc⟩,_⟩:=h;have hlt:=(Ab.1 hb).1;refine⟨_,run_range_map w t T Te b es clk ht hb,⟨⟨es,clk,#[],(Below.heap_alloc w _ b hlt).trans hb,hr,hs,hc,by rw[mJ,Al rfl],?_⟩,by simp⟩,(Below.refl _ w).alloc (Ad _) _,by simp⟩;have:leftOf es #[]=es:=by simp[leftOf]
 rw[this];exact hr
theorem Mc {enc:K->Value} {encV:V->Value}:∀{es:List MapEntry} {L:List (K×V)},gV enc encV es L->∀e∈es,∃M1 x M2 es1 es2,L=M1++x::M2/\es=es1++e::es2/\gV enc encV es1 M1/\gV enc encV es2 M2/\e.key=enc x.1/\e.val=encV x.2
 |[],_,_,e,h=>by cases h
 |a::es,[],h,_,_=>by grind [gV]
 |a::es,y::L,h,e,he=>by
  simp only[gV,AW,Dj,DV]at h;rcases Ap.1 he with rfl|he
  . exact⟨[],y,L,[],es,rfl,rfl,rfl,h.2,h.1.1,h.1.2⟩
  . obtain⟨M1,x,M2,es1,es2,h1,h2,h3,h4,h5⟩:=Mc (h.2:gV enc encV es L) e he;grind [gV]
theorem cC.next {w:World} {r b:Nat} {enc:K->Value} {encV:V->Value} {L ss left:List (K×V)} (h:cC w r b enc encV L ss left) (ty:TypeId):
   (left=[]/\ss.Perm L/\(Instr.next (.pointer (some ⟨r,0,none⟩)) false ty).run P w= .ok (.tuple #[.bool false]) w)\/
   ∃ x left' w',(Instr.next (.pointer (some ⟨r,0,none⟩)) false ty).run P w= .ok (.tuple #[.bool true,enc x.1,encV x.2]) w'/\cC w' r b enc encV L (ss++[x]) left'/\left.length=left'.length+1/\eT (· =r) w w'/\w'.heap.size=w.heap.size/\
     (Instr.entry (.pointer (some ⟨r,0,none⟩))).run P w'= .ok (.tuple #[enc x.1,encV x.2]) w':=by
 obtain⟨⟨es,clk,seen,hb,hr,hs,hc,hi,hl⟩,hp⟩:=h;have hnd:=QY hs;rcases run_next_at (P:=P) w ty r b clk clk seen es clk hi hb hc (Ad _)with⟨h0,hrun⟩|⟨e,he,w1,hw1,hrun⟩
 . have:left=[]:=by
     have:=Aj List.length hl;grind
   grind
 . obtain⟨M1,x,M2,es1,es2,h1,h2,h3,h4,h5,h6⟩:=Mc hl e he;have hi1:w1.heap[r]? =some (.mapIter (some b) clk seen clk):=by rcases hw1 with rfl|rfl<;>exact hi
   have hb1:w1.heap[b]? =some (.map es clk):=by rcases hw1 with rfl|rfl<;>exact hb
   have hrlt:=(Ab.1 hi1).1;have hne:b≠r:=fun hh=>by rw[hh]at hb;rw[hb]at hi;cases hi
   have hget:∀k,(setBlock w1 r (.mapIter (some b) clk (seen.push e.born) clk)).heap[k]? =if k=r then some (.mapIter (some b) clk (seen.push e.born) clk)else w1.heap[k]? :=fun k=>by
     grind [setBlock]
   have hem:e∈es.toList:=by
     have:=he;grind [leftOf]
   refine .inr ⟨x,M1++M2,_,by rw[<-h5,<-h6];omega,⟨⟨es,clk,seen.push e.born,by rw[hget,An hne];omega,hr,hs,hc,by rw[hget,Al rfl],?_⟩,?_⟩,by rw[h1];grind,⟨?_,?_,?_,?_,fun k _ hk=>?_⟩,?_,by rw[<-h5,<-h6];grind [run_entry_at]⟩
   . have hsub:((leftOf es seen).toList.map (·.born)).Nodup:=by
      grind [leftOf]
     have hcut:(leftOf es (seen.push e.born)).toList=(leftOf es seen).toList.filter fun y=> !(y.born==e.born):=by
      unfold leftOf;rw[EL,EL,List.filter_filter];congr 1
      funext y
      rw[Array.contains_push];by_cases hh:y.born=e.born
      . simp[hh]
      . have h2:(y.born==e.born)=false:=by simpa using hh
        have h3:(e.born==y.born)=false:=by simpa using fun e=>hh e.symm
        simp only[h2,h3]
        cases seen.contains y.born<;>rfl
     rw[hcut,h2];rw[h2,Br,AW,List.nodup_append]at hsub;obtain⟨n1,n2,n3⟩:=hsub;rw[Du]at n2;have f1:es1.filter (fun y=> !(y.born==e.born))=es1:=by
      rw[Bn];intro y hy;have:=n3 y.born (Aw.2 ⟨y,hy,rfl⟩) e.born Aq;simpa using this
     have f2:es2.filter (fun y=> !(y.born==e.born))=es2:=by
      rw[Bn];intro y hy;have:y.born≠e.born:=fun hh=>n2.1 (Aw.2 ⟨y,hy,hh⟩)
      simpa using this
     rw[Dy,BU,f1,f2];grind [gV]
   . rw[h1]at hp;refine List.Perm.trans ?_ hp;rw[BH];refine ED ss ?_;simp only[DN];exact List.perm_middle.symm
   . rcases hw1 with rfl|rfl<;>rfl
   . rcases hw1 with rfl|rfl<;>rfl
   . rcases hw1 with rfl|rfl<;>rfl
   . rcases hw1 with rfl|rfl<;>simp[setBlock]
   . rw[hget,An hk];rcases hw1 with rfl|rfl<;>rfl
   . rcases hw1 with rfl|rfl<;>simp[setBlock]
section
variable (w:World) {ops:Array Oper} {rest:List Oper} {o:Oper} {a:Act} {Q:Exit->Act->World->Prop}
theorem Q7 (hg:o.guard=none) (m:Operand) (t:TypeId) (hop:o.op=Op.range t m) {T Te:TypeId} (ht:P.underlying t=some (.map T Te)) (b:Nat) {enc:K->Value} {encV:V->Value} {L:List (K×V)}
  (hm:a.eval m= .map (some b)) (h:ay w b enc encV L)
  (hK:∀w',cC w' w.heap.size b enc encV L [] L->Below w.heap.size w w'->w'.heap.size=w.heap.size+1->wpList P ops Q rest (a.put o.dst (.pointer (some ⟨w.heap.size,0,none⟩))) w'):wpList P ops Q (o::rest) a w:=by
 refine wpList_plain hg fun K' hK'=>?_
 obtain⟨w',hrun,r1,r2,r3⟩:=h.range (P:=P) ht;unfold Oper.wp;simp[execOp,hop,hm,hrun,Result.andThen];exact hK' _ _ (hK w' r1 r2 r3)
theorem Ig (hg:o.guard=none) (it:Operand) (hop:o.op=Op.next it false) (r b:Nat) {enc:K->Value} {encV:V->Value} {L ss left:List (K×V)}
   (hit:a.eval it= .pointer (some ⟨r,0,none⟩)) (h:cC w r b enc encV L ss left)
   (hDone:left=[]->ss.Perm L->wpList P ops Q rest (a.put o.dst (.tuple #[.bool false])) w)
   (hMore:∀x left' w',cC w' r b enc encV L (ss++[x]) left'->left.length=left'.length+1->eT (· =r) w w'->w'.heap.size=w.heap.size->(Instr.entry (.pointer (some ⟨r,0,none⟩))).run P w'= .ok (.tuple #[enc x.1,encV x.2]) w'->
    wpList P ops Q rest (a.put o.dst (.tuple #[.bool true,enc x.1,encV x.2])) w'):wpList P ops Q (o::rest) a w:=by
 refine wpList_plain hg fun K' hK'=>?_
 unfold Oper.wp;rcases h.next (P:=P) o.type with⟨h0,hl,hrun⟩|⟨x,left',w',hrun,h1,h2,h3,h4,h5⟩
 . simp[execOp,hop,hit,hrun,Result.andThen];exact hK' _ _ (hDone h0 hl)
 . simp[execOp,hop,hit,hrun,Result.andThen];exact hK' _ _ (hMore x left' w' h1 h2 h3 h4 h5)
end
end
end Go.Gm
namespace Go.Proofs
open Go Go.Am Go.RowKit Go.Sy Go.Gm Go.Maps Go.Sort
section
section
variable {K V:Type} [DecidableEq K] {F:Fence} {n:Nat} {P:Program} (w:World) {ops:Array Oper} {rest:List Oper} {o:Oper} {a:Act} {Q:Exit->Act->World->Prop}
theorem QV (hg:o.guard=none) (m:Operand) (t:TypeId) (hop:o.op=Op.range t m) {T Te:TypeId} (ht:P.underlying t=some (.map T Te)) (b:Nat) {enc:K->Value} {encV:V->Value} {L:List (K×V)}
  (hm:a.eval m= .map (some b)) (h:ay w b enc encV L)
  (hK:∀w',cC w' w.heap.size b enc encV L [] L->w.grownBy w' none->w'.heap.size=w.heap.size+1->wpListIn F n P ops Q rest (a.put o.dst (.pointer (some ⟨w.heap.size,0,none⟩))) w'):wpListIn F n P ops Q (o::rest) a w:=by
 refine wpListIn_plain hg fun K' hK'=>?_
 obtain⟨w',hrun,r1,r2,r3⟩:=h.range (P:=P) ht;unfold Oper.wpIn;refine⟨by grind [Oper.about],?_⟩;rw[Oper.semAt_plain F _ _ (by rw[hop];grind)];simp[execOp,hop,hm,hrun,Result.andThen];exact hK' _ _ (hK w' r1 ⟨r2.os,r2.tape,r2.output,r2.size,fun i hi _=>r2.block i hi⟩ r3)
theorem QU (hg:o.guard=none) (it:Operand) (hop:o.op=Op.next it false) (r b:Nat) {enc:K->Value} {encV:V->Value} {L ss left:List (K×V)}
   (hit:a.eval it= .pointer (some ⟨r,0,none⟩)) (h:cC w r b enc encV L ss left)
   (hDone:left=[]->ss.Perm L->wpListIn F n P ops Q rest (a.put o.dst (.tuple #[.bool false])) w)
   (hMore:∀x left' w',cC w' r b enc encV L (ss++[x]) left'->left.length=left'.length+1->w.grownBy w' (some r)->w'.heap.size=w.heap.size->(Instr.entry (.pointer (some ⟨r,0,none⟩))).run P w'= .ok (.tuple #[enc x.1,encV x.2]) w'->
    wpListIn F n P ops Q rest (a.put o.dst (.tuple #[.bool true,enc x.1,encV x.2])) w'):wpListIn F n P ops Q (o::rest) a w:=by
 refine wpListIn_plain hg fun K' hK'=>?_
 unfold Oper.wpIn;refine⟨by grind [Oper.about],?_⟩;rw[Oper.semAt_plain F _ _ (by rw[hop];grind)];rcases h.next (P:=P) o.type with⟨h0,hl,hrun⟩|⟨x,left',w',hrun,h1,h2,h3,h4,h5⟩
 . simp[execOp,hop,hit,hrun,Result.andThen];exact hK' _ _ (hDone h0 hl)
 . simp[execOp,hop,hit,hrun,Result.andThen];exact hK' _ _ (hMore x left' w' h1 h2 ⟨h3.os,h3.tape,h3.output,h3.size,fun i hi hne=>h3.block i hi fun e=>hne (by rw[e])⟩ h4 h5)
end
theorem _root_.Go.Gm.cC.jC {K V:Type} [DecidableEq K] {w w':World} {r b:Nat} {enc:K->Value} {encV:V->Value} {L ss left:List (K×V)} (h:cC w r b enc encV L ss left) (hk:KeepsWalks w w'):cC w' r b enc encV L ss left:=by
 obtain⟨⟨es,clk,seen,hb,hr,hs,hc,hi,hl⟩,hp⟩:=h;exact⟨⟨es,clk,seen,hk.same _ _ hb rfl,hr,hs,hc,hk.same _ _ hi rfl,hl⟩,hp⟩
theorem _root_.Go.Gm.cC.isWalk {K V:Type} [DecidableEq K] {w:World} {r b:Nat} {enc:K->Value} {encV:V->Value} {L ss left:List (K×V)} (h:cC w r b enc encV L ss left):∃o:Obj,w.heap[r]? =some o/\o.isWalk=true:=by
 obtain⟨⟨es,clk,seen,hb,hr,hs,hc,hi,hl⟩,hp⟩:=h;exact⟨_,hi,rfl⟩
theorem _root_.Go.Gm.cC.left_eq {K V:Type} [DecidableEq K] {w:World} {r b:Nat} {enc:K->Value} {encV:V->Value} {L ss left:List (K×V)} (h:cC w r b enc encV L ss left):w.rangeLeft b r=left.length:=by
 obtain⟨⟨es,clk,seen,hb,hr,hs,hc,hi,hl⟩,hp⟩:=h;have:=Aj List.length hl;grind [World.rangeLeft]
theorem PQ (l Bm b n:Nat) (hn:1<=n) (L:DL) (J:List aq->World->Prop)
  (hY:∀pre x W,J pre W->pre.length<L.length->YieldAt Fence.wide (n - 1) Tryz.prog l #[bJ x] W fun e W'=>e= .returned (.bool true)/\J (pre++[x]) W'/\KeepsWalks W W')
  (W:World) (hJ:AbidesFrom W.heap.size J) (hm:W.cell? ⟨Bm,0,none⟩=some (.map (some b))) (hown:ay W b bJ cD L) (h0:J [] W):
  CallsIn Fence.wide n Tryz.prog 248 #[.func (.yield l) #[] #[], .pointer (some ⟨Bm,0,none⟩)] W fun e W'=>(∃v,e= .returned v)/\ ∃ss:List aq,ss.Perm (L.map (·.1))/\J ss W':=by
 refine callsIn_of_wp Tryz.func248 rfl trivial ?_ rfl;simp only[Tryz.ntmps248,Bj,Bc,Bt,Nat.reduceAdd,Nat.reduceSub,Db,Da,Dl,Dg,BA,BV];gi_wp2_with (first
  |(gi_at_range;refine QV _ rfl _ 104 rfl Tryz.underlying104 b rfl hown ?_;intro w0 hrg0 hg0 hs0)
  |gi_in)
 go_frame
 gi_loopw [3] (fun _ wr=>∃(ss left:DL),cC wr W.heap.size b bJ cD L ss left/\ss.length+left.length=L.length/\J (ss.map (·.1)) wr/\W.heap.size<wr.heap.size)
  (fun _ wr=>wr.rangeLeft b W.heap.size)
 case atStart=>exact⟨[],L,hrg0,by simp,hJ [] W w0 none h0 hg0 (fun r e=>by cases e),by omega⟩
 case round=>
  obtain⟨ss,left,hrg,hcs,hJs,hbig⟩:=hrel;gi_wp2_with (first
    |(gi_at_next;refine QU _ rfl _ rfl W.heap.size b rfl hrg ?_ ?_)
    |gi_in)
  . intro hl0 hperm;gi_wp2
    go_end0
    grind
  . intro d nn left' w2 hrg2 hlt hg2 hs2 hen;have hJ2:J (ss.map (·.1)) w2:=hJ _ wr w2 (some W.heap.size) hJs hg2 (fun r e=>by cases e;exact⟨Ad _,hrg.isWalk⟩);have hba:w2.grownBy (w2.alloc (.cells #[.int .i64 d.dev, .int .i64 d.inc, .int .i64 d.seq] 70)) none:=World.grownBy_alloc w2 _ none;have hJ3:=hJ _ w2 _ none hJ2 hba (fun r e=>by cases e);have hrg3:=hrg2.jC (KeepsWalks.alloc w2 (.cells #[.int .i64 d.dev, .int .i64 d.inc, .int .i64 d.seq] 70));obtain⟨fn,tmps,assign,body,hy,hR⟩:=hY (ss.map (·.1)) d _ hJ3 (by grind);rw[show bJ d= .agg #[.int .i64 d.dev, .int .i64 d.inc, .int .i64 d.seq]from rfl]at hen hy;clear hs2;gi_wp2
    refine hR.mono ?_;rintro e W3 ⟨rfl,hJ4,hk4⟩;gi_wp2
    have hrg4:=hrg3.jC hk4;have hz4:=hk4.size;have hz2:=hg2.size;go_roundw
    case rel=>exact⟨ss++[(d,nn)],left',hrg4,by grind,by grind,by simp at hz4;omega⟩
    case measure=>rw[hrg4.left_eq,hrg.left_eq];omega
theorem OH (n:Nat) (hn:1<=n) (Bm b:Nat) (L:DL) (w:World) (hBm:Bm<w.heap.size) (hm:w.cell? ⟨Bm,0,none⟩=some (.map (some b))) (hown:ay w b bJ cD L):
  SeqGives Fence.wide n Tryz.prog 248 #[.pointer (some ⟨Bm,0,none⟩)] bJ (fun ss=>ss.Perm (L.map (·.1))) L.length w:=fun l J W hW hJ hY h0=>
 PQ l Bm b n hn L J hY W hJ ((hW.cell (p:=⟨Bm,0,none⟩) hBm).trans hm) (hown.same (hW.block b (Go.Gm.ay.lt hown))) h0
end
end Go.Proofs
namespace Go.Proofs
open Go Go.Am Go.RowKit Go.Sy Go.Gm
section
section
variable [Inhabited aF]
theorem Xa {tab:bm} {w:World} {l:List aq} {v:Value} (h:cH w l v):aO (bQ tab w).get (cL l) (dK w.heap.size v):=by
 rcases h with⟨rfl,a,c,rfl⟩|⟨b,off,cap,arr,e,fz,rfl,hb,hc,hl,hi⟩
 . cases a with
   |none=>
    cases c with
    |zero=>exact .bP rfl (.inl rfl)
    |succ c=>exact .bP rfl (.inr (.inr ⟨_,_,rfl⟩))
   |some a=>rw[xu];exact .bP rfl (.inr (.inr ⟨_,_,rfl⟩))
 . refine xo hb (sz:=3) (by omega) (fun _ _=>rfl) hl rfl hc fun i x j s hx hs=>?_
   have hil:i<l.length:=(Ae.1 hx).1;have hxe:l[i]=x:=(Ae.1 hx).2;obtain⟨e0,e1,e2⟩:=hi i hil;rw[hxe]at e0 e1 e2;have hj:j<3:=(Ae.1 hs).1;match j,hj with
   |0,_=>cases hs;exact⟨_,e0, .int _ _⟩
   |1,_=>cases hs;exact⟨_,e1, .int _ _⟩
   |2,_=>cases hs;exact⟨_,e2, .int _ _⟩
theorem qzO {tab:bm} {w:World} {e:ae} {u:Value} (h:ja w u e):aO (bQ tab w).get (.agg e.enc) (dh w.heap.size u):=by
 obtain⟨v,rfl,hd⟩:=h;have h18:=Xa (tab:=tab) hd;unfold gT dh;refine .agg rfl fun i c x hc hx=>?_
 have hj:i<19:=(Ae.1 hc).1;match i,hj with
 |0,_|1,_|2,_|3,_|4,_|5,_|6,_|15,_|16,_|17,_=>cases hc;cases hx;exact .int _ _
 |7,_|8,_|9,_|10,_=>cases hc;cases hx;exact .str _
 |11,_|12,_|13,_|14,_=>cases hc;cases hx;exact .bool _
 |18,_=>cases hc;simp_all
end
theorem G0 {w:World} {e:ae} {u:Value} (h:ja w u e) (hs:ly e):Calls Tryz.prog 48 #[u] w fun e' w'=>e'= .returned (.bool (fw e))/\Below w.heap.size w w':=
 yE (C:=fun I=>gK ly fw) (fun I=> @Lu I) (hfn:=rfl) (hb:=rfl) (args:=[u]) (fun I=>⟨e,hs,⟨rfl,fun j c v hc hv=>by
  match j with
  |0=>cases hc;grind [qzO]
  |_+1=>cases hc⟩,rfl⟩)
def fB:List aq->List Value
 |[]=>[]
 |d::l=> .int .i64 d.dev:: .int .i64 d.inc:: .int .i64 d.seq::fB l
theorem zz:∀l,(fB l).length=l.length*3
 |[]=>rfl
 |d::l=>by simp only[fB,Bc,zz l];omega
theorem It:∀l,∀u∈fB l,u.oneCell'=true
 |[],u,h=>by cases h
 |d::l,u,h=>by
  simp only[fB,Ap]at h;rcases h with rfl|rfl|rfl|h
  . rfl
  . rfl
  . rfl
  . exact It l u h
theorem sy:∀(l:List aq) (i:Nat) (h:i<l.length),(fB l)[i*3]? =some (.int .i64 l[i].dev)/\(fB l)[i*3+1]? =some (.int .i64 l[i].inc)/\(fB l)[i*3+2]? =some (.int .i64 l[i].seq)
 |d::l,0,_=>⟨rfl,rfl,rfl⟩
 |d::l,i+1,h=>by
  have:=sy l i (by grind);rw[show(i+1)*3=i*3+1+1+1 by omega];exact this
theorem RG (l:List aq) {j:Nat} {u:Value} (h:(fB l)[j]? =some u):∃i,∃hi:i<l.length,(j=i*3/\u= .int .i64 l[i].dev)\/(j=i*3+1/\u= .int .i64 l[i].inc)\/(j=i*3+2/\u= .int .i64 l[i].seq):=by
 have hj:j<l.length*3:=by rw[<-zz];grind
 have hi:j / 3<l.length:=by omega
 obtain⟨h0,h1,h2⟩:=sy l (j / 3) hi;grind
theorem UY {w:World} {base:Nat} {l:List aq} {v:Value} (h:w.ownsRow base 70 3 v l.length (fB l)):cH w l v:=by
 rcases h.2 with⟨rfl,h0⟩|⟨g,cap,cur,rfl,hb,hg,h1,h2,h3,h4⟩
 . exact .inl ⟨AP.1 h0,_,_,rfl⟩
 . refine .inr ⟨g,0,cap,cur,70,(0,0),rfl,hg,h1,by omega,fun i hi=>?_⟩;obtain⟨e0,e1,e2⟩:=sy l i hi;have key:∀j,j<l.length*3->cur[0+j]? =(fB l)[j]? :=fun j hj=>by
    rw[<-h4,A4,Al hj,A6,Ax]
   grind
def kN (n:Nat) (l:List aq) (v:Value):Prop:=l=[]\/ ∃b off k c,v= .slice (some ⟨b,off,none⟩) k c/\n<=b
def dm (w:World) (n:Nat) (l:List aq) (v:Value):Prop:=(l=[]/\ ∃a c,v= .slice a 0 c)\/ ∃b cap arr,v= .slice (some ⟨b,0,none⟩) l.length cap/\n<=b/\w.heap[b]? =some (.cells arr 70 (0,0))/\l.length<=cap/\l.length*3<=arr.size/\
 ∀i (h:i<l.length),arr[i*3]? =some (.int .i64 l[i].dev)/\arr[i*3+1]? =some (.int .i64 l[i].inc)/\arr[i*3+2]? =some (.int .i64 l[i].seq)
theorem dm.cL {w:World} {n:Nat} {l:List aq} {v:Value} (h:dm w n l v):cH w l v:=by
 rcases h with h|⟨b,cap,arr,rfl,hb,h1,h2,h3,h4⟩
 . exact .inl h
 . exact .inr ⟨b,0,cap,arr,70,(0,0),rfl,h1,h2,by rw[Ax];exact h3,fun i hi=>by rw[Ax];grind⟩
theorem dm.mono {w:World} {n m:Nat} {l:List aq} {v:Value} (h:dm w n l v) (hm:m<=n):dm w m l v:=by
 rcases h with h|⟨b,cap,arr,rfl,hb,hr⟩
 . exact .inl h
 . exact .inr ⟨b,cap,arr,rfl,Ar hm hb,hr⟩
theorem dm.bn {w w':World} {n:Nat} {l:List aq} {v:Value} (h:dm w n l v) (hs:∀b arr,n<=b->w.heap[b]? =some (.cells arr 70 (0,0))->w'.heap[b]? =w.heap[b]?):dm w' n l v:=by
 rcases h with h|⟨b,cap,arr,rfl,hb,h1,hr⟩
 . exact .inl h
 . exact .inr ⟨b,cap,arr,rfl,hb,(hs b arr hb h1).trans h1,hr⟩
theorem dm.one {w:World} {n:Nat} {l:List aq} {v:Value} (h:dm w n l v):∃a n c,v= .slice a n c:=by
 rcases h with⟨_,a,c,rfl⟩|⟨_,_,_,rfl,_⟩<;>exact⟨_,_,_,rfl⟩
theorem Ue {w:World} {base:Nat} {l:List aq} {v:Value} (h:w.ownsRow base 70 3 v l.length (fB l)):dm w base l v:=by
 rcases h.2 with⟨rfl,h0⟩|⟨g,cap,cur,rfl,hb,hg,h1,h2,h3,h4⟩
 . exact .inl ⟨AP.1 h0,_,_,rfl⟩
 . refine .inr ⟨g,cap,cur,rfl,hb,hg,h1,by omega,fun i hi=>?_⟩;obtain⟨e0,e1,e2⟩:=sy l i hi;have key:∀j,j<l.length*3->cur[j]? =(fB l)[j]? :=fun j hj=>by
    rw[<-h4,A4,Al hj,A6]
   grind
theorem Hj:(Tryz.prog.info? 70).map (fun i=>(i.zero,i.size,i.bytes))=some (some (.agg #[.int .i64 0, .int .i64 0, .int .i64 0]),3,24):=by kernel_rfl
theorem P7 {w:World} {l:List aq} {v:Value} (h:cH w l v) (hl:l.length<=100000):Calls Tryz.prog 86 #[v] w fun e w'=>∃v',e= .returned v'/\dm w' w.heap.size l v'/\Below w.heap.size w w':=by
 have q40:∀(w:World) (a:Option Addr) (n c n' c':Nat),(binOp .eql 34 (.slice a n c) (.slice none n' c')).run Tryz.prog w= .ok (.bool a.isNone) w:=fun w a n c n' c'=>Lib.run_eql_slice_nil w _ _ a n c n' c' Tryz.underlying34
 obtain⟨i0,hi,hz0,hz1,hz2⟩:∃i0,Tryz.prog.info? 70=some i0/\i0.zero=some (.agg #[.int .i64 0, .int .i64 0, .int .i64 0])/\i0.size=3/\i0.bytes=24:=by
   have h:=Hj;simp_all
 have go:∀(p:Addr) (c:Nat),(∀j u,(fB l)[j]? =some u->w.cell? (p.add j)=some u)->Calls Tryz.prog 86 #[.slice (some p) l.length c] w fun e w'=>∃v',e= .returned v'/\dm w' w.heap.size l v'/\Below w.heap.size w w':=by
   intro p c hc;have A:Aside (∀j u,(fB l)[j]? =some u->w.cell? (p.add j)=some u):=hc;clear hc;go_enter Tryz.func86,Tryz.ntmps86
   go_wp2_with (at_builtin;refine wpList_append_own _ rfl _ _ 34 rfl w.heap.size 70 i0 _ 3 24 Tryz.underlying34 hi hz0 hz1 hz2 rfl (by omega) _ _ _ rfl (World.ownsRow_made w #[] 0 (Ad _) (Au _) (by simp)) p l.length c (fB l) rfl ?qc1 ?qc2 ?qc3 ?qc4 ?qc5 ?qc6 ?_)
   case qc1=>exact zz l
   case qc2=>
    intro j u hj;exact Lib.cell?_alloc_some _ (A.out j u hj)
   case qc3=>exact It l
   case qc4=>rw[Ax];grind [maxLen]
   case qc5=>rw[Ax];omega
   case qc6=>simp
   intro v' w1 hown hgrow hnil;go_wp2;go_ret;refine⟨v',rfl,Ue (by omega),?_⟩;exact((Below.refl _ w).alloc (Ad _) _).grown hgrow (by simp) (by grind [Value.ownBlock])
 rcases h with⟨rfl,a,c,rfl⟩|⟨b,off,cap,arr,e,fz,rfl,hb,hc,hl2,hi2⟩
 . cases a with
   |none=>
    clear go;go_enter Tryz.func86,Tryz.ntmps86
    go_wp2;go_ret;exact⟨_,rfl, .inl ⟨rfl,_,_,rfl⟩,Below.refl _ _⟩
   |some a=>
    exact go a c fun j u hj=>by cases hj
 . refine go ⟨b,off,none⟩ cap fun j u hj=>?_
   rw[Addr.add_lit];obtain⟨i,hil,hh⟩:=RG l hj;obtain⟨e0,e1,e2⟩:=hi2 i hil;have cell:∀{j:Nat} {u:Value},arr[j]? =some u->w.cell? ⟨b,j,none⟩=some u:=fun hx=>by
    grind [World.cell?]
   grind
end
end Go.Proofs
namespace Go.Proofs
open Go Go.Am Go.RowKit Go.Sy Go.Gm Go.Maps Go.Sort
def kY:Code->Option (Code×Code)
 | .rangeFunc _ _ a b=>some (a,b)
 | .seq a b=>match kY a with
  |some x=>some x
  |none=>kY b
 | .block _ c=>kY c
 | .scope c=>kY c
 | .loop c=>kY c
 |_=>none
noncomputable def GB:Code:=((Tryz.f266.body.bind kY).getD (.skip, .skip)).1
noncomputable def GC:Code:=((Tryz.f266.body.bind kY).getD (.skip, .skip)).2
noncomputable def apRec (fn:FuncId) (sv:Value) (Bs D:Nat) (st:LoopState) (lL:Option Code):Loop:=
 {state:=st,pending:=lL,fn,tmps:=#[.slice none 0 0,sv, .pointer (some ⟨Bs,0,none⟩),undef, .slice none 0 0,undef,sv,undef,undef,undef,undef,undef,undef],params:=#[7],assign:=GB,body:=GC,defers:=D}
structure tG (w0:World) (fn:FuncId) (sv:Value) (Bs l D:Nat) (ss:List aq) (W:World):Prop where
 box:∃v,W.heap[Bs]? =some (.cells #[v] 34 (0,0))/\W.ownsRow w0.heap.size 70 3 v ss.length (fB ss)
 L:W.heap[l]? =some (.loop (apRec fn sv Bs D .ready none))
 K:W.heap[D]? =some (.deferred (some []))
 below:Below w0.heap.size w0 W
theorem Tc (w0:World) (fn:FuncId) (sv:Value) (Bs l D B:Nat) (hB:w0.heap.size<=B):AbidesFrom B (tG w0 fn sv Bs l D):=fun s W W' row h hg hrow=>by
 have hrow':∀r,row=some r->∃o:Obj,W.heap[r]? =some o/\o.isWalk=true:=fun r e=>(hrow r e).2
 obtain⟨v,hv,hr⟩:=h.box;exact⟨⟨v,(grownBy_keeps hg hrow' hv rfl).trans hv,ownsRow_abides_a hr hg hrow'⟩,(grownBy_keeps hg hrow' h.L rfl).trans h.L,(grownBy_keeps hg hrow' h.K rfl).trans h.K,h.below.grown hg h.below.size (fun k e=>Ar hB (hrow k e).1)⟩
theorem Ir (l:List aq) (x:aq):fB (l++[x])=fB l++[.int .i64 x.dev, .int .i64 x.inc, .int .i64 x.seq]:=by
 induction l with
 |nil=>rfl
 |cons d l ih=>grind [fB]
theorem GJ:∃i0,Tryz.prog.info? 70=some i0/\i0.zero=some (.agg #[.int .i64 0, .int .i64 0, .int .i64 0])/\i0.size=3/\i0.bytes=24:=by
 have h:=Hj;simp_all
theorem Ot (m:Nat) (w0:World) (fn:FuncId) (sv:Value) (Bs l D:Nat) (hBl:Bs≠l) (hDl:D≠l) (hDB:D≠Bs) (h0B:w0.heap.size<=Bs) (h0l:w0.heap.size<=l)
  (N:Nat) (hN:N<=1000000) (ss:List aq) (x:aq) (W:World) (h:tG w0 fn sv Bs l D ss W) (hlen:ss.length<N):
  YieldAt Fence.wide m Tryz.prog l #[bJ x] W fun e W'=>e= .returned (.bool true)/\tG w0 fn sv Bs l D (ss++[x]) W'/\KeepsWalks W W':=by
 obtain⟨i0,hi,hz0,hz1,hz2⟩:=GJ;obtain⟨v,hv,hrow⟩:=h.box;refine⟨fn,#[.slice none 0 0,sv, .pointer (some ⟨Bs,0,none⟩),undef, .slice none 0 0,undef,sv,bJ x,undef,undef,undef,undef,undef],GB,GC,by simpa [apRec]using run_yield (P:=Tryz.prog) (args:=#[bJ x]) h.L rfl,roundIn_of_wpIn trivial ?_⟩;have hl:l<W.heap.size:=(Ab.1 h.L).1;have hne:∀cur:Array Value,Obj.cells #[v] 34 (0,0)≠ .cells cur 70 (0,0):=fun cur e=>by
  have:=(Obj.cells.inj e).2.1;grind
 obtain⟨W1,hW1⟩:∃W1,W.alloc (.cells #[.int .i64 x.dev, .int .i64 x.inc, .int .i64 x.seq] 70)=W1:=⟨_,rfl⟩;have hs1:W1.heap.size=W.heap.size+1:=by rw[<-hW1];simp
 have hold1:∀k,k<W.heap.size->W1.heap[k]? =W.heap[k]? :=fun k hk=>by rw[<-hW1];grind [Below.heap_alloc]
 have hBlt0:Bs<W.heap.size:=(Ab.1 hv).1;have hDlt0:D<W.heap.size:=(Ab.1 h.K).1;have hv1:W1.heap[Bs]? =some (.cells #[v] 34 (0,0)):=(hold1 Bs hBlt0).trans hv;have hL1:W1.heap[l]? =some (.loop (apRec fn sv Bs D .ready none)):=(hold1 l hl).trans h.L;have hK1:W1.heap[D]? =some (.deferred (some [])):=(hold1 D hDlt0).trans h.K;have hrow1:W1.ownsRow w0.heap.size 70 3 v ss.length (fB ss):=by rw[<-hW1];exact hrow.alloc _
 have hb1:Below w0.heap.size w0 W1:=by rw[<-hW1];exact h.below.alloc h.below.size _
 have hk1:KeepsWalks W W1:=by rw[<-hW1];grind [KeepsWalks.alloc]
 have x0':W1.cell? ⟨W.heap.size,0,none⟩=some (.int .i64 x.dev):=by rw[<-hW1];simp
 have x1':W1.cell? ⟨W.heap.size,1,none⟩=some (.int .i64 x.inc):=by rw[<-hW1];simp
 have x2':W1.cell? ⟨W.heap.size,2,none⟩=some (.int .i64 x.seq):=by rw[<-hW1];simp
 have hbr:=run_beginRound (P:=Tryz.prog) hL1 rfl;obtain⟨W2,hW2⟩:∃W2,W1.putObj l (.loop {apRec fn sv Bs D .ready none with state:= .busy})=W2:=⟨_,rfl⟩;rw[hW2]at hbr;have hg2:W1.grownBy W2 (some l):=by rw[<-hW2];grind [grownBy_putObj_a]
 have hk2:KeepsWalks W1 W2:=by rw[<-hW2];exact KeepsWalks.putObj _ hL1 rfl
 have hv2:W2.heap[Bs]? =some (.cells #[v] 34 (0,0)):=by rw[<-hW2];grind [World.putObj_heap_other]
 have hK2:W2.heap[D]? =some (.deferred (some [])):=by rw[<-hW2];grind [World.putObj_heap_other]
 have hL2:W2.heap[l]? =some (.loop {apRec fn sv Bs D .ready none with state:= .busy}):=by rw[<-hW2];grind [World.putObj_heap_same]
 have hrow2:W2.ownsRow w0.heap.size 70 3 v ss.length (fB ss):=hrow1.kept hg2 (ownsRow_ne_a hrow1 hL1 (fun cur e=>by cases e));have hb2:Below w0.heap.size w0 W2:=hb1.grown hg2 hb1.size (fun k e=>by grind);have hs2:W2.heap.size=W.heap.size+1:=by rw[<-hW2];simp[hs1]
 have hbx:W2.heap[W.heap.size]? =W1.heap[W.heap.size]? :=by rw[<-hW2];grind [World.putObj_heap_other]
 have x0:=ep x0' hbx;have x1:=ep x1' hbx;have x2:=ep x2' hbx;obtain⟨hc2,hf2⟩:=cell_of_box_a hv2;have hBlt:Bs<W2.heap.size:=(Ab.1 hv2).1;have hl2:l<W2.heap.size:=(Ab.1 hL2).1;have hDlt:D<W2.heap.size:=(Ab.1 hK2).1;have ne_of:∀{j:Nat} {o:Obj},W2.heap[j]? =some o->(∀cur,o≠ .cells cur 70 (0,0))->some j≠v.ownBlock:=fun hj hno=>by
  grind [ownsRow_ne_a]
 clear hW2;rw[show bJ x= .agg #[.int .i64 x.dev, .int .i64 x.inc, .int .i64 x.seq]from rfl];conv=>arg 4;whnf
 gi_wp2_with gi_round_op_a
 conv=>arg 4;whnf
 obtain⟨W2b,hW2b⟩:∃W2b,W2.alloc (.cells #[.int .i64 x.dev, .int .i64 x.inc, .int .i64 x.seq] 70)=W2b:=⟨_,rfl⟩;have hrow2b:W2b.ownsRow w0.heap.size 70 3 v ss.length (fB ss):=by rw[<-hW2b];exact hrow2.alloc _
 have hs2b:W2b.heap.size=W2.heap.size+1:=by rw[<-hW2b];simp
 have hold2b:∀k,k<W2.heap.size->W2b.heap[k]? =W2.heap[k]? :=fun k hk=>by rw[<-hW2b];grind [Below.heap_alloc]
 have y0:W2b.cell? ⟨W2.heap.size,0,none⟩=some (.int .i64 x.dev):=by rw[<-hW2b];simp
 have y1:W2b.cell? ⟨W2.heap.size,1,none⟩=some (.int .i64 x.inc):=by rw[<-hW2b];simp
 have y2:W2b.cell? ⟨W2.heap.size,2,none⟩=some (.int .i64 x.seq):=by rw[<-hW2b];simp
 rw[hs2]at y0 y1 y2;have hcells:∀j u,([Value.int .i64 x.dev, .int .i64 x.inc, .int .i64 x.seq]:List Value)[j]? =some u->W2b.cell? ((⟨W.heap.size+1,0,none⟩:Addr).add j)=some u:=fun j u hj=>by
  rw[Addr.add_lit];match j with
  |0=>grind
  |1=>grind
  |2=>grind
  |_+3=>cases hj
 have hb2b:Below w0.heap.size w0 W2b:=by rw[<-hW2b];exact hb2.alloc hb2.size _
 have hz2b:w0.heap.size<=W2b.heap.size:=hb2b.size;gi_wp2_with (first
  |(gi_at_builtin;refine wpListIn_append_own _ rfl _ _ 34 rfl w0.heap.size 70 i0 _ 3 24 Tryz.underlying34 hi hz0 hz1 hz2 rfl (by decide) _ _ _ rfl hrow2b ⟨W.heap.size+1,0,none⟩ 1 1 [.int .i64 x.dev, .int .i64 x.inc, .int .i64 x.seq] rfl rfl hcells (by simp[Value.oneCell']) (by grind [maxLen]) (by omega) hz2b ?_;intro v' w3 hown' hg3 hnil3;have hg3':W2b.grownBy w3 v.ownBlock:=hg3;have hv3:w3.heap[Bs]? =some (.cells #[v] 34 (0,0)):=(hg3'.block Bs (by omega) (ne_of hv2 hne)).trans ((hold2b Bs hBlt).trans hv2);obtain⟨hc3,hf3⟩:=cell_of_box_a hv3;obtain⟨g',cap',cur',rfl,hbase',hgb',hr1,hr2,hr3,hr4⟩:∃g' cap' cur',v'= .slice (some ⟨g',0,none⟩) (ss.length+1) cap'/\w0.heap.size<=g'/\w3.heap[g']? =some (.cells cur' 70 (0,0))/\ss.length+1<=cap'/\cap'<=maxLen/\cur'.size=cap'*3/\cur'.toList.take ((ss.length+1)*3)=fB ss++[.int .i64 x.dev, .int .i64 x.inc, .int .i64 x.seq]:=hown'.2.resolve_left (fun hh=>absurd hh.2 (by omega));go_frame)
  |gi_round_op_a)
 have hL3:w3.heap[l]? =some (.loop {apRec fn sv Bs D .ready none with state:= .busy}):=(hg3'.block l (by omega) (ne_of hL2 (fun cur e=>by cases e))).trans ((hold2b l hl2).trans hL2);have hK3:w3.heap[D]? =some (.deferred (some [])):=(hg3'.block D (by omega) (ne_of hK2 (fun cur e=>by cases e))).trans ((hold2b D hDlt).trans hK2);obtain⟨w4,hw4⟩:∃w4,w3.setCell ⟨Bs,0,none⟩ (.slice (some ⟨g',0,none⟩) (ss.length+1) cap')=w4:=⟨_,rfl⟩;rw[hw4];have hg4:w3.grownBy w4 (some Bs):=by rw[<-hw4];grind [grownBy_setCell0_a]
 have hv4:w4.heap[Bs]? =some (.cells #[.slice (some ⟨g',0,none⟩) (ss.length+1) cap'] 34 (0,0)):=by rw[<-hw4];grind [heap_setCell_box_a]
 have hL4:w4.heap[l]? =some (.loop {apRec fn sv Bs D .ready none with state:= .busy}):=(hg4.block l (Ab.1 hL3).1 (fun e=>hBl (by grind))).trans hL3;have hK4:w4.heap[D]? =some (.deferred (some [])):=(hg4.block D (Ab.1 hK3).1 (fun e=>hDB (by grind))).trans hK3;have hrow4:=hown'.kept hg4 (ownsRow_ne_a hown' hv3 hne);have hl4:l<w4.heap.size:=(Ab.1 hL4).1;have hb3:Below w0.heap.size w0 w3:=hb2b.grown hg3' hz2b (fun k e=>(hrow2b.lt k e).1);have hb4:Below w0.heap.size w0 w4:=hb3.grown hg4 hb3.size (fun k e=>by grind);have hk2b:KeepsWalks W2 W2b:=by rw[<-hW2b];grind [KeepsWalks.alloc]
 have hk4:KeepsWalks W w4:=(((hk1.trans hk2).trans hk2b).trans (KeepsWalks.of_grownBy hg3' (ownsRow_not_walk_a hrow2b))).trans (by rw[<-hw4];exact KeepsWalks.setCell _ _ _);clear hw4;refine⟨_,_,run_endRound none hL4,rfl,⟨⟨_,(World.putObj_heap_other hBl).trans hv4,?_⟩,World.putObj_heap_same hl4,(World.putObj_heap_other hDl).trans hK4,hb4.grown (grownBy_putObj_a _ _ _) hb4.size (fun k e=>by grind)⟩,hk4.trans (KeepsWalks.putObj _ hL4 rfl)⟩;have:=hrow4.kept (grownBy_putObj_a w4 l (.loop {{apRec fn sv Bs D .ready none with state:= .busy}with state:=if(none:Option Code).isNone then .ready else .done,pending:=none})) (ownsRow_ne_a hrow4 hL4 (fun cur e=>by cases e));rw[Ir];grind
theorem WG:∀args w,(callFunc 248 args).run Tryz.prog w= .ok (.enter 248 args) w:=enters_of Tryz.func248 (by kernel_rfl) rfl
theorem OP (n:Nat) (hn:2<=n) (lb:Array Value) (S:List aq->Prop) (N:Nat) (hN:N<=1000000) (w:World) (hseq:SeqGives Fence.wide (n - 1) Tryz.prog 248 lb bJ S N w):
    CallsIn Fence.wide n Tryz.prog 266 #[.slice none 0 0, .func (.func 248) #[] lb] w fun e w'=>∃(v:Value) (ss:List aq),e= .returned v/\S ss/\w'.ownsRow w.heap.size 70 3 v ss.length (fB ss)/\Below w.heap.size w w':=by
  have h1:1<=n:=by omega
  refine callsIn_of_wp_marks Tryz.func266 rfl trivial ?_ rfl;simp only[Tryz.ntmps266,Bj,Bc,Bt,Nat.reduceAdd,Nat.reduceSub,Db,Da,Dl,Dg,BA,BV];gi_wp2
  refine wpIn_rangeFunc ?_;intro fn hfn;obtain⟨W0,hW0⟩:∃W0,w.alloc (.cells #[.slice none 0 0] 34)=W0:=⟨_,rfl⟩;have hs0:W0.heap.size=w.heap.size+1:=by rw[<-hW0];simp
  have hv0:W0.heap[w.heap.size]? =some (.cells #[.slice none 0 0] 34 (0,0)):=by rw[<-hW0];grind [World.alloc_heap_new]
  have hb0:Below w.heap.size w W0:=by rw[<-hW0];exact(Below.refl _ w).alloc (Ad _) _
  rw[hW0];obtain⟨W1,hW1⟩:∃W1,(W0.alloc (.deferred (some []))).alloc (.loop (apRec fn (.func (.func 248) #[] lb) w.heap.size W0.heap.size .ready none))=W1:=⟨_,rfl⟩;have hold:∀k,k<W0.heap.size->W1.heap[k]? =W0.heap[k]? :=fun k hk=>by
    rw[<-hW1];grind [Below.heap_alloc]
  have hb1:Below w.heap.size w W1:=by rw[<-hW1];exact(hb0.alloc hb0.size _).alloc (by have:=hb0.size;simp;omega) _
  have hs1:W1.heap.size=W0.heap.size+2:=by rw[<-hW1];simp
  have hM:tG w fn (.func (.func 248) #[] lb) w.heap.size (W0.heap.size+1) W0.heap.size [] W1:=
    ⟨⟨_,(hold w.heap.size (by omega)).trans hv0,⟨rfl, .inl ⟨rfl,rfl⟩⟩⟩,
     by rw[<-hW1];have:=World.alloc_heap_new (W0.alloc (.deferred (some []))) (.loop (apRec fn (.func (.func 248) #[] lb) w.heap.size W0.heap.size .ready none));rwa [World.size_alloc]at this,
     by rw[<-hW1];grind [Below.heap_alloc,World.alloc_heap_new],hb1⟩
  refine⟨W0.heap.size+1,[{target:= .collected W0.heap.size,args:=#[]}],W1,{target:= .fn (.func 248) lb,args:=#[.func (.yield (W0.heap.size+1)) #[] #[]]},W1,248,
    #[.func (.yield (W0.heap.size+1)) #[] #[]]++lb,W1,?_,?_,?_,?_,fun _=>h1,?_⟩
  . rw[<-hW1];exact run_enterLoop_outer _ _ _ _ _
  . simp[resolve,go_sem]
  . intro f' hf';simp[Target.leads]at hf';subst hf';trivial
  . grind [invoke,WG]
  . refine(hseq (W0.heap.size+1) (tG w fn (.func (.func 248) #[] lb) w.heap.size (W0.heap.size+1) W0.heap.size) W1 hb1 (Tc _ _ _ _ _ _ _ hb1.size)
      (fun pre x W hJ hl=>Ot (n - 1 - 1) w fn _ w.heap.size (W0.heap.size+1) W0.heap.size (by omega) (by omega) (by omega) (Ad _) (by omega) N hN pre x W hJ hl) hM).mono ?_
    rintro e W2 ⟨⟨v0,rfl⟩,ss,hS,h2⟩;obtain⟨v,hv,hrow⟩:=h2.box;have hend:=run_endLoop (P:=Tryz.prog) h2.L (by simp[apRec]);obtain⟨W3,hW3⟩:∃W3,W2.putObj (W0.heap.size+1) (.loop {apRec fn (.func (.func 248) #[] lb) w.heap.size W0.heap.size .ready none with state:= .exhausted})=W3:=⟨_,rfl⟩;rw[hW3]at hend;have hne:∀cur:Array Value,Obj.cells #[v] 34 (0,0)≠ .cells cur 70 (0,0):=fun cur e=>by
      have:=(Obj.cells.inj e).2.1;grind
    have hg3:W2.grownBy W3 (some (W0.heap.size+1)):=by rw[<-hW3];grind [grownBy_putObj_a]
    have hv3:W3.heap[w.heap.size]? =some (.cells #[v] 34 (0,0)):=by rw[<-hW3];grind [World.putObj_heap_other]
    have hK3:W3.heap[W0.heap.size]? =some (.deferred (some [])):=by rw[<-hW3];exact(World.putObj_heap_other (by omega)).trans h2.K
    have hrow3:=hrow.kept hg3 (ownsRow_ne_a hrow h2.L (fun cur e=>by cases e));have hb3:Below w.heap.size w W3:=h2.below.grown hg3 h2.below.size (fun k e=>by grind);obtain⟨hc3,hf3⟩:=cell_of_box_a hv3;clear hW3;refine⟨none,W3,hend,?_⟩;gi_wp2
    rw[<-hs0];refine⟨by simp, .inl ⟨_,_,rfl,run_takeDeferred hK3,?_⟩⟩;exact⟨_,results_tmp rfl _ _ _,v,ss,rfl,hS,hrow3.kept (grownBy_putObj_a _ _ _) (ownsRow_ne_a hrow3 hK3 (fun cur e=>by cases e)),hb3.grown (grownBy_putObj_a _ _ _) hb3.size (fun k e=>by grind)⟩
theorem Ow (n:Nat) (hn:3<=n) (lb:Array Value) (S:List aq->Prop) (N:Nat) (hN:N<=1000000) (w:World) (hseq:SeqGives Fence.wide (n - 1 - 1) Tryz.prog 248 lb bJ S N w):
  CallsIn Fence.wide n Tryz.prog 246 #[.func (.func 248) #[] lb] w fun e w'=>∃(v:Value) (ss:List aq),e= .returned v/\S ss/\w'.ownsRow w.heap.size 70 3 v ss.length (fB ss)/\Below w.heap.size w w':=by
 have h1:1<=n:=by omega
 refine callsIn_of_wp Tryz.func246 rfl trivial ?_ rfl;simp only[Tryz.ntmps246,Bj,Bc,Bt,Nat.reduceAdd,Nat.reduceSub,Db,Da,Dl,Dg,BA,BV];have hf253:Fence.wide.fn 266:=trivial;have hs:=OP (n - 1) (by omega) lb S N hN w hseq;gi_wp2_with (gi_at_call 266;refine hs.mono ?_;rintro e w' ⟨v,ss,rfl,hS,hrow,hb⟩)
 go_ret;exact⟨v,ss,rfl,hS,hrow,hb⟩
end Go.Proofs
namespace Go.Proofs
open Go.Shelf
def rE:Go.Shelf.Ren:=⟨fun|6=>247|15=>168|14=>267|28=>212|29=>213|20=>274|21=>275|22=>276|23=>277|24=>278|25=>279|26=>280|27=>281|46=>283|47=>242|48=>243|49=>284|50=>285|57=>286|n=>n,fun|22=>34|24=>70|25=>204|3=>3|39=>198|0=>0|53=>229|55=>231|4=>4|46=>223|45=>222|50=>139|5=>5|9=>9|66=>248|70=>252|76=>263|77=>264|n=>n,fun|n=>n⟩
theorem P9:Go.Proofs.SlLaysF0.n6 Tryz.prog rE:={
 mixed:=by kernel_rfl
 f6:=⟨Tryz.f247.name,by decide,Tryz.func247.trans (Aj some (by kernel_rfl))⟩
 f14:=⟨Tryz.f267.name,by decide,Tryz.func267.trans (Aj some (by kernel_rfl))⟩
 f15:=Tryz.func168.trans (Aj some (by kernel_rfl))
 f20:=⟨Tryz.f274.name,by decide,Tryz.func274.trans (Aj some (by kernel_rfl))⟩
 f21:=⟨Tryz.f275.name,by decide,Tryz.func275.trans (Aj some (by kernel_rfl))⟩
 f22:=⟨Tryz.f276.name,by decide,Tryz.func276.trans (Aj some (by kernel_rfl))⟩
 f23:=⟨Tryz.f277.name,by decide,Tryz.func277.trans (Aj some (by kernel_rfl))⟩
 f24:=⟨Tryz.f278.name,by decide,Tryz.func278.trans (Aj some (by kernel_rfl))⟩
 f25:=⟨Tryz.f279.name,by decide,Tryz.func279.trans (Aj some (by kernel_rfl))⟩
 f26:=⟨Tryz.f280.name,by decide,Tryz.func280.trans (Aj some (by kernel_rfl))⟩
 f27:=⟨Tryz.f281.name,by decide,Tryz.func281.trans (Aj some (by kernel_rfl))⟩
 f28:=Tryz.func212.trans (Aj some (by kernel_rfl))
 f29:=Tryz.func213.trans (Aj some (by kernel_rfl))
 f46:=⟨Tryz.f283.name,by decide,Tryz.func283.trans (Aj some (by kernel_rfl))⟩
 f47:=Tryz.func242.trans (Aj some (by kernel_rfl))
 f48:=Tryz.func243.trans (Aj some (by kernel_rfl))
 f49:=⟨Tryz.f284.name,by decide,Tryz.func284.trans (Aj some (by kernel_rfl))⟩
 f50:=⟨Tryz.f285.name,by decide,Tryz.func285.trans (Aj some (by kernel_rfl))⟩
 f57:=⟨Tryz.f286.name,by decide,Tryz.func286.trans (Aj some (by kernel_rfl))⟩
 t0:=Tryz.underlying0
 a0:=Tryz.isAgg0
 z0:=Tryz.sizeOf0
 v0:=Tryz.zeroValue0
 t3:=Tryz.underlying3
 a3:=Tryz.isAgg3
 z3:=Tryz.sizeOf3
 v3:=Tryz.zeroValue3
 t4:=Tryz.underlying4
 a4:=Tryz.isAgg4
 z4:=Tryz.sizeOf4
 v4:=Tryz.zeroValue4
 t5:=Tryz.underlying5
 a5:=Tryz.isAgg5
 z5:=Tryz.sizeOf5
 v5:=Tryz.zeroValue5
 t9:=Tryz.underlying9
 a9:=Tryz.isAgg9
 z9:=Tryz.sizeOf9
 v9:=Tryz.zeroValue9
 t22:=Tryz.underlying34
 a22:=Tryz.isAgg34
 z22:=Tryz.sizeOf34
 v22:=Tryz.zeroValue34
 t25:=Tryz.underlying204
 a25:=Tryz.isAgg204
 z25:=Tryz.sizeOf204
 v25:=Tryz.zeroValue204
 t39:=Tryz.underlying198
 a39:=Tryz.isAgg198
 z39:=Tryz.sizeOf198
 v39:=Tryz.zeroValue198
 t45:=Tryz.underlying222
 a45:=Tryz.isAgg222
 z45:=Tryz.sizeOf222
 v45:=Tryz.zeroValue222
 t46:=Tryz.underlying223
 a46:=Tryz.isAgg223
 z46:=Tryz.sizeOf223
 v46:=Tryz.zeroValue223
 t50:=Tryz.underlying139
 a50:=Tryz.isAgg139
 z50:=Tryz.sizeOf139
 v50:=Tryz.zeroValue139
 t53:=Tryz.underlying229
 a53:=Tryz.isAgg229
 z53:=Tryz.sizeOf229
 v53:=Tryz.zeroValue229
 t55:=Tryz.underlying231
 a55:=Tryz.isAgg231
 z55:=Tryz.sizeOf231
 v55:=Tryz.zeroValue231
 t66:=Tryz.underlying248
 a66:=Tryz.isAgg248
 z66:=Tryz.sizeOf248
 v66:=Tryz.zeroValue248
 t70:=Tryz.underlying252
 a70:=Tryz.isAgg252
 z70:=Tryz.sizeOf252
 v70:=Tryz.zeroValue252
 t76:=Tryz.underlying263
 a76:=Tryz.isAgg263
 z76:=Tryz.sizeOf263
 v76:=Tryz.zeroValue263
 t77:=Tryz.underlying264
 a77:=Tryz.isAgg264
 z77:=Tryz.sizeOf264
 v77:=Tryz.zeroValue264}
def rD:Go.Shelf.Ren:=⟨fun|6=>119|15=>168|14=>167|28=>212|29=>213|20=>204|21=>205|22=>206|23=>207|24=>208|25=>209|26=>210|27=>211|46=>241|47=>242|48=>243|49=>244|50=>245|57=>265|n=>n,fun|22=>165|24=>57|25=>167|3=>3|39=>198|0=>0|53=>229|55=>231|4=>4|46=>223|45=>222|50=>139|5=>5|9=>9|66=>248|70=>252|76=>263|77=>264|n=>n,fun|n=>n⟩
theorem P8:Go.Proofs.SlLaysF0.n6 Tryz.prog rD:={
 mixed:=by kernel_rfl
 f6:=⟨Tryz.f119.name,by decide,Tryz.func119.trans (Aj some (by kernel_rfl))⟩
 f14:=⟨Tryz.f167.name,by decide,Tryz.func167.trans (Aj some (by kernel_rfl))⟩
 f15:=Tryz.func168.trans (Aj some (by kernel_rfl))
 f20:=⟨Tryz.f204.name,by decide,Tryz.func204.trans (Aj some (by kernel_rfl))⟩
 f21:=⟨Tryz.f205.name,by decide,Tryz.func205.trans (Aj some (by kernel_rfl))⟩
 f22:=⟨Tryz.f206.name,by decide,Tryz.func206.trans (Aj some (by kernel_rfl))⟩
 f23:=⟨Tryz.f207.name,by decide,Tryz.func207.trans (Aj some (by kernel_rfl))⟩
 f24:=⟨Tryz.f208.name,by decide,Tryz.func208.trans (Aj some (by kernel_rfl))⟩
 f25:=⟨Tryz.f209.name,by decide,Tryz.func209.trans (Aj some (by kernel_rfl))⟩
 f26:=⟨Tryz.f210.name,by decide,Tryz.func210.trans (Aj some (by kernel_rfl))⟩
 f27:=⟨Tryz.f211.name,by decide,Tryz.func211.trans (Aj some (by kernel_rfl))⟩
 f28:=Tryz.func212.trans (Aj some (by kernel_rfl))
 f29:=Tryz.func213.trans (Aj some (by kernel_rfl))
 f46:=⟨Tryz.f241.name,by decide,Tryz.func241.trans (Aj some (by kernel_rfl))⟩
 f47:=Tryz.func242.trans (Aj some (by kernel_rfl))
 f48:=Tryz.func243.trans (Aj some (by kernel_rfl))
 f49:=⟨Tryz.f244.name,by decide,Tryz.func244.trans (Aj some (by kernel_rfl))⟩
 f50:=⟨Tryz.f245.name,by decide,Tryz.func245.trans (Aj some (by kernel_rfl))⟩
 f57:=⟨Tryz.f265.name,by decide,Tryz.func265.trans (Aj some (by kernel_rfl))⟩
 t0:=Tryz.underlying0
 a0:=Tryz.isAgg0
 z0:=Tryz.sizeOf0
 v0:=Tryz.zeroValue0
 t3:=Tryz.underlying3
 a3:=Tryz.isAgg3
 z3:=Tryz.sizeOf3
 v3:=Tryz.zeroValue3
 t4:=Tryz.underlying4
 a4:=Tryz.isAgg4
 z4:=Tryz.sizeOf4
 v4:=Tryz.zeroValue4
 t5:=Tryz.underlying5
 a5:=Tryz.isAgg5
 z5:=Tryz.sizeOf5
 v5:=Tryz.zeroValue5
 t9:=Tryz.underlying9
 a9:=Tryz.isAgg9
 z9:=Tryz.sizeOf9
 v9:=Tryz.zeroValue9
 t22:=Tryz.underlying165
 a22:=Tryz.isAgg165
 z22:=Tryz.sizeOf165
 v22:=Tryz.zeroValue165
 t25:=Tryz.underlying167
 a25:=Tryz.isAgg167
 z25:=Tryz.sizeOf167
 v25:=Tryz.zeroValue167
 t39:=Tryz.underlying198
 a39:=Tryz.isAgg198
 z39:=Tryz.sizeOf198
 v39:=Tryz.zeroValue198
 t45:=Tryz.underlying222
 a45:=Tryz.isAgg222
 z45:=Tryz.sizeOf222
 v45:=Tryz.zeroValue222
 t46:=Tryz.underlying223
 a46:=Tryz.isAgg223
 z46:=Tryz.sizeOf223
 v46:=Tryz.zeroValue223
 t50:=Tryz.underlying139
 a50:=Tryz.isAgg139
 z50:=Tryz.sizeOf139
 v50:=Tryz.zeroValue139
 t53:=Tryz.underlying229
 a53:=Tryz.isAgg229
 z53:=Tryz.sizeOf229
 v53:=Tryz.zeroValue229
 t55:=Tryz.underlying231
 a55:=Tryz.isAgg231
 z55:=Tryz.sizeOf231
 v55:=Tryz.zeroValue231
 t66:=Tryz.underlying248
 a66:=Tryz.isAgg248
 z66:=Tryz.sizeOf248
 v66:=Tryz.zeroValue248
 t70:=Tryz.underlying252
 a70:=Tryz.isAgg252
 z70:=Tryz.sizeOf252
 v70:=Tryz.zeroValue252
 t76:=Tryz.underlying263
 a76:=Tryz.isAgg263
 z76:=Tryz.sizeOf263
 v76:=Tryz.zeroValue263
 t77:=Tryz.underlying264
 a77:=Tryz.isAgg264
 z77:=Tryz.sizeOf264
 v77:=Tryz.zeroValue264}
end Go.Proofs
namespace Go.Proofs
open Go Go.Am Go.RowKit Go.Sy Go.Gm Go.Maps Go.Sort Go.Shelf
section
theorem LR {w w':World} (h:Below w.heap.size w w') (hd:w.drawn<=w'.drawn):∃q os,w'=grow (w.drewN q) os:=by
 refine⟨w'.drawn - w.drawn,w'.heap.extract w.heap.size w'.heap.size,?_⟩;unfold grow World.drewN
 cases w' with
 |mk heap tape drawn os output=>
  obtain⟨h1,h2,h3,h4,h5⟩:=h;simp only at h1 h2 h3 h4 h5 hd⊢;subst h1;subst h2;subst h3;congr 1
  all_goals grind
def kz (x:aq):List Value:=[.int .i64 x.dev, .int .i64 x.inc, .int .i64 x.seq]
def kf (x:aD):List Value:=[.string ⟨x.name.toArray⟩, .string ⟨x.domain.toArray⟩, .string ⟨x.path.toArray⟩]
def nL (x y:aD):Int:=if fj x y then -1 else 1
section
variable [Inhabited aF]
theorem Ze:CO rW yA:=bR (C:=yA) (cfg:=fun y=>cm qV (cV y)) bu (fun _=>rfl) (fun _=>sL) (n:=400) (by
 rintro⟨x,y⟩ -;refine⟨(x,y),?_⟩
 repeat' first|exact trivial|exact rfl|refine aG (fun _=>?_) fun _=>?_|apply And.intro)
def LX:aK:={Y:=aD×aD,pre:=fun _=>True,args:=fun y=>[.agg y.1.enc, .agg y.2.enc],res:=fun y=>i64 (nL y.1 y.2)}
theorem qzJ:CO ru LX:=bR (C:=LX) (cfg:=fun y=>cm qV (cV y)) bu (fun _=>rfl) (fun _=>sL) (n:=400) (by
 rintro⟨x,y⟩ -;refine⟨(x,y),?_⟩
 repeat first|refine⟨rfl,?_⟩|refine⟨trivial,?_⟩
 repeat' first|exact trivial|exact rfl|refine aG (fun _=>?_) fun _=>?_|apply And.intro
 all_goals grind [nL])
end
theorem YN:SWO (ltOf nR) where
 irrefl x:=by
  have:= @sq ⟨⟨True,#[]⟩⟩ x;exact this
 trans x y z h1 h2:= @sk ⟨⟨True,#[]⟩⟩ x y z h1 h2
 ntrans x y z h1 h2:=by
  letI:Inhabited aF:=⟨⟨True,#[]⟩⟩
  have h1:¬cg x y=true:=by rw[Ed];exact h1
  have h2:¬cg y z=true:=by rw[Ed];exact h2
  show cg x z=false
  rw[<-Ed];rw[uj]at*;omega
theorem xk (x y:aD):ltOf nL x y=fj x y:=by
 grind [ltOf,nL]
theorem YO:SWO (ltOf nL) where
 irrefl x:=by
  letI:Inhabited aF:=⟨⟨True,#[]⟩⟩
  rw[xk];exact qA x
 trans x y z h1 h2:=by
  letI:Inhabited aF:=⟨⟨True,#[]⟩⟩
  rw[xk]at*;grind [oL]
 ntrans x y z h1 h2:=by
  letI:Inhabited aF:=⟨⟨True,#[]⟩⟩
  rw[xk]at*;grind [sB,oL]
theorem LD {Fz:Nat->Option AO} {n:Nat} (x:aq) [Inhabited aF]:aO Fz (.agg x.enc) (dh n (.agg (kz x).toArray)):=E9 [x.dev,x.inc,x.seq]
theorem CM {Fz:Nat->Option AO} {n:Nat} (k:aD) [Inhabited aF]:aO Fz (.agg k.enc) (dh n (.agg (kf k).toArray)):=by
 unfold dh;refine .agg rfl fun i c v hc hv=>?_
 have hj:i<3:=(Ae.1 hc).1;unfold aD.enc at hc;match i,hj with
 |0,_|1,_|2,_=>cases hc;cases hv;exact .str _
theorem Qn (aA off size:Nat) (w:World):CmpLays Tryz.prog 217 #[] kz 3 nR aA off size w:=by
 intro m os dk _ x y;letI:Inhabited aF:=⟨⟨True,#[]⟩⟩
 have h:=kE bu.ok Ze (fn:=Tryz.f217) (hfn:=by kernel_rfl) (hb:=rfl) (y:=(x,y)) trivial (args:=[.agg (kz x).toArray, .agg (kz y).toArray]) (w:=sortWorldK kz 3 w aA off m dk os) (PL.cons (LD x) (PL.cons (LD y) PL.nil)) (cI.oI rfl _);refine Calls.mono h ?_;rintro e w' ⟨v,rfl,hv,hbel,hd⟩;have hv:v= .int .i64 (nR x y):=gZ hv;exact⟨by rw[hv],LR hbel (hd trivial)⟩
theorem Ql (aA off size:Nat) (w:World):CmpLays Tryz.prog 120 #[] kf 3 nL aA off size w:=by
 intro m os dk _ x y;letI:Inhabited aF:=⟨⟨True,#[]⟩⟩
 have h:=kE bu.ok qzJ (fn:=Tryz.f120) (hfn:=by kernel_rfl) (hb:=rfl) (y:=(x,y)) trivial (args:=[.agg (kf x).toArray, .agg (kf y).toArray]) (w:=sortWorldK kf 3 w aA off m dk os) (PL.cons (CM x) (PL.cons (CM y) PL.nil)) (cI.oI rfl _);refine Calls.mono h ?_;rintro e w' ⟨v,rfl,hv,hbel,hd⟩;have hv:v= .int .i64 (nL x y):=gZ hv;exact⟨by rw[hv],LR hbel (hd trivial)⟩
theorem Qv:∀w,(isAgg (rE.t 24)).run Tryz.prog w= .ok true w:=fun w=>by kernel_rfl
theorem PI:∀w,(Go.sizeOf (rE.t 24)).run Tryz.prog w= .ok 3 w:=fun w=>by kernel_rfl
theorem QC:∀w,(isAgg (rD.t 24)).run Tryz.prog w= .ok true w:=fun w=>by kernel_rfl
theorem PO:∀w,(Go.sizeOf (rD.t 24)).run Tryz.prog w= .ok 3 w:=fun w=>by kernel_rfl
theorem zi (x:aq):∀v∈kz x,v.oneCell'=true:=by
 intro v hv;simp only[kz,Ap,BE,Dq]at hv;rcases hv with rfl|rfl|rfl<;>rfl
theorem zn (x:aD):∀v∈kf x,v.oneCell'=true:=by
 intro v hv;simp only[kf,Ap,BE,Dq]at hv;rcases hv with rfl|rfl|rfl<;>rfl
theorem PW (aA off cap:Nat) (d:Array aq) (w:World) (hH:HoldsK kz 3 w aA off d) (hblk:aA<w.heap.size) (hsz:d.size<4611686018427387904):
  Calls Tryz.prog 247 #[.slice (some ⟨aA,off,none⟩) d.size cap, .func (.func 217) #[] #[]] w fun e w'=>e= .returned (.tuple #[])/\ ∃d' n os,PermIn 0 d.size d d'/\SortedIn (ltOf nR) 0 d.size d'/\w'=sortWorldK kz 3 w aA off n d' os:=
 AnyQ.slices_SortFunc P9 3 Qv PI kz (fun _=>rfl) zi nR YN 217 #[] aA off cap d w (enters_of Tryz.func217 (by kernel_rfl) rfl) (Qn aA off d.size w) hH hblk hsz
theorem PX (aA off cap:Nat) (d:Array aD) (w:World) (hH:HoldsK kf 3 w aA off d) (hblk:aA<w.heap.size) (hsz:d.size<4611686018427387904):
  Calls Tryz.prog 119 #[.slice (some ⟨aA,off,none⟩) d.size cap, .func (.func 120) #[] #[]] w fun e w'=>e= .returned (.tuple #[])/\ ∃d' n os,PermIn 0 d.size d d'/\SortedIn (ltOf nL) 0 d.size d'/\w'=sortWorldK kf 3 w aA off n d' os:=
 AnyQ.slices_SortFunc P8 3 QC PO kf (fun _=>rfl) zn nL YO 120 #[] aA off cap d w (enters_of Tryz.func120 (by kernel_rfl) rfl) (Ql aA off d.size w) hH hblk hsz
end
section
section
variable [Inhabited aF]
def yh (g:FuncId):aK:={Y:=Unit,pre:=fun _=>True,args:=fun _=>[.nils, .fn g [] []],res:=fun _=> .bA []}
theorem Zd:CO OC (yh rW):=bR (C:=yh rW) (cfg:=fun y=>cm qV (cV y)) bu (fun _=>rfl) (fun _=>sL) (n:=3000) (by
 rintro⟨⟩ -
 (conv=>whnf)
 trivial)
theorem XH:CO OD (yh ru):=bR (C:=yh ru) (cfg:=fun y=>cm qV (cV y)) bu (fun _=>rfl) (fun _=>sL) (n:=3000) (by
 rintro⟨⟩ -
 (conv=>whnf)
 trivial)
end
theorem JJ [Inhabited aF] {P:Program} {tab:bm} (ok:bN P tab) {f:FuncId} {C:aK} (hc:Go.Sy.cA P tab f C) {fn:Func} {body:Code} (hfn:tab.fns.get f=some fn) (hb:fn.body=some body) {y:C.Y} (hy:C.pre y) {args:List Value} {avs:List AV} (hconc:∀E,bp E avs=args) {w:World}
  (hs:PL (bQ tab w).get (C.args y) avs) (hw:cI w):Calls P f args.toArray w (fun e w'=>∃v,e= .returned v/\Rd w' (fun _=>True) true (C.res y) v/\Below w.heap.size w w'/\((default:aF).dr->w.drawn<=w'.drawn)):=by
 intro cs;have hP:=ok.fns f fn hfn;have hdom:∀i o,(bQ tab w).get i=some o->i<(bQ tab w).next:=fun i o hi=>(oU tab w (E:=⟨fun i=>i,fun _=>0⟩) (fun _ _=>rfl)).ey i o hi
 let E:Env:=⟨fun i=>i,fun _=>0⟩
 let D:Nat->Prop:=fun i=>i<w.heap.size
 have hag:∀E',ak D E E'->∀i,i<w.heap.size->E'.aA i=i:=fun E' he i hi=>(he i hi).1
 have hR:Rel D E (KS.old w.heap.size) {fr:=ag.enter fn f body avs .normal,cs:=[],h:=bQ tab w} cs (Frame.enter P f args.toArray .normal) cs w:=by
  refine⟨fun E' he=>⟨oU tab w (hag E' he),?_,rfl⟩,fun i h=>h,qI _ _ _ _ _,fun f hf=>by cases hf⟩;rw[<-mH hP hb,hconc]
 obtain⟨v,h',⟨Fz',_,f2,hsim,_⟩,fr',w',v',E',D',s1,s2,s3,s4,s5,s6,s7,s8,s9,s10⟩:=hc fn body hfn hb y hy (bQ tab w).get (bQ tab w) _ (fun _ _ h=>h) hdom hs.1 hs.2 D E _ cs _ cs w hR hw.lj;obtain⟨g1,g2⟩:=s4 E' (ak.refl _ _);subst g2;exact⟨.returned (af E' v),w',fr',⟨_,rfl,uB g1 f2 hsim,⟨s8.os,s8.tape,s8.output,s8.size,s8.block⟩,s8.drawn⟩,s1,s2,s3⟩
theorem L9 [Inhabited aF] {w:World} {p:Nat->Prop} {g:Bool} {v:Value} (h:Rd w p g (.bA []) v):v= .tuple #[]:=by
 cases h with
 | @bA cs vs h1 h2=>
  grind
theorem PV (w:World):Calls Tryz.prog 247 #[.slice none 0 0, .func (.func 217) #[] #[]] w fun e w'=>e= .returned (.tuple #[])/\Below w.heap.size w w':=by
 letI:Inhabited aF:=⟨⟨True,#[]⟩⟩
 refine Calls.mono (JJ bu.ok Zd (fn:=Tryz.f247) (hfn:=rfl) (hb:=rfl) (y:=()) trivial (args:=[.slice none 0 0, .func (.func 217) #[] #[]]) (avs:=[.nils, .fn (.func 217) [] []]) (fun E=>by simp[af]) (w:=w) (PL.cons .nils (PL.cons (.fn (xs:=[]) (ys:=[]) (us:=[]) (vs:=[]) rfl rfl (fun i x u h=>(by grind)) (fun i x u h=>(by grind))) PL.nil)) (cI.oI rfl _)) ?_;rintro e w' ⟨v,rfl,hv,hb,_⟩;exact⟨by rw[L9 hv],hb⟩
theorem PB (w:World):Calls Tryz.prog 119 #[.slice none 0 0, .func (.func 120) #[] #[]] w fun e w'=>e= .returned (.tuple #[])/\Below w.heap.size w w':=by
 letI:Inhabited aF:=⟨⟨True,#[]⟩⟩
 refine Calls.mono (JJ bu.ok XH (fn:=Tryz.f119) (hfn:=rfl) (hb:=rfl) (y:=()) trivial (args:=[.slice none 0 0, .func (.func 120) #[] #[]]) (avs:=[.nils, .fn (.func 120) [] []]) (fun E=>by simp[af]) (w:=w) (PL.cons .nils (PL.cons (.fn (xs:=[]) (ys:=[]) (us:=[]) (vs:=[]) rfl rfl (fun i x u h=>(by grind)) (fun i x u h=>(by grind))) PL.nil)) (cI.oI rfl _)) ?_;rintro e w' ⟨v,rfl,hv,hb,_⟩;exact⟨by rw[L9 hv],hb⟩
end
end Go.Proofs
namespace Go.Gm
open Go Go.RowKit Go.Maps Go.Proofs Go.ChangeMaps
section
variable {P:Program} {K V:Type} [DecidableEq K]
theorem Ru {es:List MapEntry} (hs:(es.map (·.born)).Pairwise (· < ·)) {j:Nat} (hj:j<es.length) {n:Nat} (hn:es[j].born=n):es.findIdx? (fun e=>((e.born:Int)==(n:Int)))=some j:=by
 rw[D4];grind [List.pairwise_iff_getElem]
theorem Rh {es:Array MapEntry} (hs:(es.toList.map (·.born)).Pairwise (· < ·)) {j:Nat} (hj:j<es.size) {n:Nat} (hn:es[j].born=n):es.findIdx? (fun e=>((e.born:Int)==(n:Int)))=some j:=by
 obtain⟨l⟩:=es;rw[List.findIdx?_toArray];exact Ru hs hj hn
theorem ay.entry {w:World} {b:Nat} {enc:K->Value} {encV:V->Value} {L:List (K×V)} (h:ay w b enc encV L) {T Te t:TypeId} (hK:KeyLaw P T enc) (ht:P.underlying t=some (.map T Te)) {z:V} (hz:∀w:World,(zeroValue Te).run P w= .ok (encV z) w) (k:K) (val:V):
  ∃ (v:Value) (n:Nat) (o o':Obj),(Instr.mapEntry t (.map (some b)) (enc k)).run P w= .ok (.tuple #[v,goInt n]) (World.aU w b o)/\(Instr.entryStore t (.map (some b)) (goInt n) (encV val)).run P (World.aU w b o)= .ok () (World.aU (World.aU w b o) b o')/\lO (World.aU w b o) b/\
    ay (World.aU (World.aU w b o) b o') b enc encV (cq L k val)/\(ay (World.aU w b o) b enc encV L\/k∉L.map (·.1)/\ay (World.aU w b o) b enc encV (L++[(k,z)])):=by
 obtain⟨⟨es,clk,hb,hr,hs,hc⟩,hnd⟩:=h;have hf:=uk hK k w es.toList L hr;have hgo:(getObj b).run P w= .ok (.map es clk) w:=by grind [getObj,Sem.run]
 cases e:idxOf k encV L 0 with
 |none=>
  have hk:=gu.1 e;have h1:(Instr.mapEntry t (.map (some b)) (enc k)).run P w= .ok (.tuple #[encV z,goInt clk]) (World.aU w b (.map (es.push ⟨enc k,encV z,clk⟩) (clk+1))):=by
    unfold Instr.mapEntry;simp only[Sem.run_bind,run_underlying ht,Result.andThen_ok,hgo,hK.iS,hf,e,hz,pQ hb,Sem.run_pure]
  have hb1:(World.aU w b (.map (es.push ⟨enc k,encV z,clk⟩) (clk+1))).heap[b]? =some (.map (es.push ⟨enc k,encV z,clk⟩) (clk+1)):=by rw[mK hb,Al rfl]
  have hgo1:(getObj b).run P (World.aU w b (.map (es.push ⟨enc k,encV z,clk⟩) (clk+1)))= .ok (.map (es.push ⟨enc k,encV z,clk⟩) (clk+1)) (World.aU w b (.map (es.push ⟨enc k,encV z,clk⟩) (clk+1))):=by grind [getObj,Sem.run]
  have hbig:(((es.push ⟨enc k,encV z,clk⟩).toList.map (·.born)).Pairwise (· < ·)):=by
    rw[Array.toList_push,Br,Ds];grind
  have hfi:(es.push ⟨enc k,encV z,clk⟩).findIdx? (fun e=>((e.born:Int)==(clk:Int)))=some es.size:=by
    grind
  have h2:∀x:Value,(Instr.entryStore t (.map (some b)) (goInt clk) x).run P (World.aU w b (.map (es.push ⟨enc k,encV z,clk⟩) (clk+1)))= .ok () (World.aU (World.aU w b (.map (es.push ⟨enc k,encV z,clk⟩) (clk+1))) b (.map ((es.push ⟨enc k,encV z,clk⟩).modify es.size fun e=>{e with val:=x}) (clk+1))):=fun x=>by
    unfold Instr.entryStore;simp only[Sem.run_bind,hgo1,Result.andThen_ok,asInt,asIntOf,goInt,Sem.run_pure,hfi,pQ hb1]
  have hmod:((es.push ⟨enc k,encV z,clk⟩).modify es.size fun e=>{e with val:=encV val}).toList=es.toList++[⟨enc k,encV val,clk⟩]:=by
    rw[Dw,Array.toList_push];apply BG
    intro i;rw[Dt];by_cases hi:es.size=i
    . subst hi;simp[<-Array.length_toList]
    . rcases Nat.lt_or_ge i es.size with h'|h'
      . simp[hi,AX,h']
      . obtain⟨m,hm⟩:∃m,i - es.size=m+1:=⟨i - es.size - 1,by omega⟩;simp[hi,Bd,h',hm]
  refine⟨_,clk,_,_,h1,h2 (encV val),⟨_,_,hb1⟩,⟨⟨_,_,by rw[mK hb1,Al rfl],?_,?_,?_⟩,wY hnd k val⟩, .inr ⟨hk,⟨_,_,hb1,?_,hbig,?_⟩,?_⟩⟩
  . grind [cq,gV]
  . rw[hmod,Br,Ds];refine⟨hs,by simp,fun a ha c hc'=>?_⟩;obtain⟨x,hx,rfl⟩:=Aw.1 ha;simp at hc';subst hc';exact hc x hx
  all_goals grind [gV]
 |some q=>
  obtain⟨j,u⟩:=q;obtain⟨n,hj,hn,g1,g2,_⟩:=xF e;simp only[Ax]at hj;subst hj;have hlen:es.size=L.length:=by simpa using Aj List.length hr
  have hn':j<es.size:=by omega
  have hkey:es[j].key=enc k:=by
    have:=Aj (fun l=>(l[j]?).map Prod.fst) hr;simp[hn',hn]at this;rw[this,g1]
  have hks:(Instr.keyThatStays (((es[j]?).map fun x:MapEntry=>x.key).getD (enc k)) (enc k)).run P w= .ok (enc k) w:=by
    simp[hn',hkey,Instr.keyThatStays,hK.bits]
  have hsame:(es.modify j fun e=>{e with key:=enc k})=es:=by
    apply BX
    intro i;rw[Array.getElem?_modify];by_cases hi:j=i
    . subst hi;rw[Al rfl,AY hn'];simp only[Bz,<-hkey]
    . rw[An hi]
  have h1:(Instr.mapEntry t (.map (some b)) (enc k)).run P w= .ok (.tuple #[u,goInt es[j].born]) (World.aU w b (.map es clk)):=by
    unfold Instr.mapEntry;simp only[Sem.run_bind,run_underlying ht,Result.andThen_ok,hgo,hK.iS,hf,e,hks,hsame,pQ hb,Sem.run_pure];simp[hn']
  have hb1:(World.aU w b (.map es clk)).heap[b]? =some (.map es clk):=by rw[mK hb,Al rfl]
  have hgo1:(getObj b).run P (World.aU w b (.map es clk))= .ok (.map es clk) (World.aU w b (.map es clk)):=by simp[getObj,Sem.run,hb1]
  have hfi:es.findIdx? (fun e=>((e.born:Int)==(es[j].born:Int)))=some j:=by
    exact Rh hs (j:=j) hn' rfl
  have h2:∀x:Value,(Instr.entryStore t (.map (some b)) (goInt es[j].born) x).run P (World.aU w b (.map es clk))= .ok () (World.aU (World.aU w b (.map es clk)) b (.map (es.modify j fun e=>{e with val:=x}) clk)):=fun x=>by
    unfold Instr.entryStore;simp only[Sem.run_bind,hgo1,Result.andThen_ok,asInt,asIntOf,goInt,Sem.run_pure,hfi,pQ hb1]
  have hput:cq L k val=L.set j (k,val):=by
    have:=MB hnd hn val;rw[g1]at this;omega
  have hborn:(es.modify j fun e=>{e with val:=encV val}).toList.map (·.born)=es.toList.map (·.born):=by
    apply BG
    intro i;rw[AE,AE,Dw,Dt];by_cases h:j=i
    . simp[h,BS]
    . simp[h]
  refine⟨_,es[j].born,_,_,h1,h2 (encV val),⟨_,_,hb1⟩,⟨⟨_,_,by rw[mK hb1,Al rfl],?_,by rw[hborn];exact hs,fun x hx=>?_⟩,wY hnd k val⟩, .inl ⟨⟨_,_,hb1,hr,hs,hc⟩,hnd⟩⟩
  . rw[hput];unfold gV at hr⊢;apply BG
    intro i;have hri:=Aj (fun l=>l[i]?) hr;simp only[AE]at hri⊢;rw[Dw,Dt,D8];by_cases h:j=i
    . subst h;simp[hn,hn',hkey]
    simp_all
  . have hm:x.born∈(es.modify j fun e=>{e with val:=encV val}).toList.map (·.born):=Aw.2 ⟨x,hx,rfl⟩;rw[hborn]at hm;obtain⟨y,hy,he⟩:=Aw.1 hm;rw[<-he];exact hc y hy
end
end Go.Gm
namespace Go.Proofs
open Go Go.Am Go.RowKit Go.Sy Go.Gm Go.Maps Go.Sort Go.Shelf
theorem xA (l:List aq) {j:Nat} (hj:j<l.length*3):(fB l)[j]? =some ((kz l.toArray[j / 3]!)[j % 3]!):=by
 have hi:j / 3<l.length:=by omega
 obtain⟨e0,e1,e2⟩:=sy l (j / 3) hi;have hg:l.toArray[j / 3]! =l[j / 3]:=by rw[BF _ _ (by omega)];simp
 rw[hg];rcases(by omega:j=j / 3*3\/j=j / 3*3+1\/j=j / 3*3+2)with e|e|e
 . have hm:j % 3=0:=by omega
   rw[hm];conv=>lhs;rw[e]
   exact e0
 . have hm:j % 3=1:=by omega
   rw[hm];conv=>lhs;rw[e]
   exact e1
 . have hm:j % 3=2:=by omega
   rw[hm];conv=>lhs;rw[e]
   exact e2
theorem Mv {w:World} {g:Nat} {cur:Array Value} {l:List aq} (hg:w.heap[g]? =some (.cells cur 70 (0,0))) (h4:cur.toList.take (l.length*3)=fB l):HoldsK kz 3 w g 0 l.toArray:=by
 intro j hj;have hj':j<l.length*3:=by simp_all
 have h2:=Aj (fun l=>l[j]?) h4;simp only[A4,Al hj',A6]at h2;rw[xA l hj']at h2;grind [World.cell?,get_flatK,World.frozen?]
theorem Tm {w:World} {g:Nat} {l:List aq} {c:Nat} (hc:l.length<=c) (h:HoldsK kz 3 w g 0 l.toArray):cH w l (.slice (some ⟨g,0,none⟩) l.length c):=by
 by_cases h0:l=[]
 . subst h0;exact .inl ⟨rfl,_,_,rfl⟩
 have hlen:0<l.length:=A7.2 h0;have hcell:∀j,j<l.length*3->w.cell? ⟨g,j,none⟩=(fB l)[j]? :=fun j hj=>by
   have:=(h j (by simp_all)).1;rw[Ax]at this;rw[this,xA l hj,get_flatK kz 3 l.toArray j (by omega)];rfl
 have h1:=hcell 0 (by omega);have hb:∃arr e fz,w.heap[g]? =some (.cells arr e fz):=by
   rw[xA l (by omega)]at h1;grind [World.cell?]
 obtain⟨arr,e,fz,hb⟩:=hb;have harr:∀j,j<l.length*3->arr[j]? =(fB l)[j]? :=fun j hj=>by
   have:=hcell j hj;grind [World.cell?]
 refine .inr ⟨g,0,c,arr,e,fz,rfl,hb,hc,?_,fun i hi=>?_⟩
 all_goals grind [xA,sy]
theorem Tx {l:List aq} (hn:l.Nodup) {d':Array aq} (hp:PermIn 0 l.toArray.size l.toArray d') (hs:SortedIn (ltOf nR) 0 l.toArray.size d'):d'.toList=dy cg l/\d'.size=l.length:=by
 letI:Inhabited aF:=⟨⟨True,#[]⟩⟩
 obtain⟨h1,_,h3⟩:=hp;have hsz:d'.size=l.length:=by omega
 have hperm:d'.toList.Perm l:=by
  rw[show d'.extract 0 l.toArray.size=d' by rw[<-h1];simp]at h3;grind
 have hnd:d'.toList.Nodup:=hperm.nodup_iff.2 hn;refine⟨uK ?_ fun x=>hperm.mem_iff,hsz⟩;rw[AK];intro i j hi hj hij;simp only[Array.length_toList]at hi hj;have:=hs i j (Au _) hij (by omega);rw[BF d' j hj,BF d' i hi]at this;have hlt:cg d'[j] d'[i]=false:=this;have hne:d'[i]≠d'[j]:=by
  have:=AK.1 hnd i j (by omega) (by omega) hij;grind
 grind [zK]
theorem RT (w:World) (g off n:Nat) (d:Array aq) (os:Array Obj) {B:Nat} (hg:B<=g) (hB:B<=w.heap.size):Below B w (sortWorldK kz 3 w g off n d os):=by
 refine⟨rfl,rfl,rfl,size_sortWorldK_c kz 3 w g off n d os,fun k hk=>?_⟩;grind [sortWorldK,grow,putRowK,putRow,mapBlock,Sort.ahead]
theorem OZ {w:World} {base:Nat} {v:Value} {l:List aq} (hn:l.Nodup) (h:w.ownsRow base 70 3 v l.length (fB l)) (hl:l.length<=1000000) (hbase:base<=w.heap.size):
   Calls Tryz.prog 247 #[v, .func (.func 217) #[] #[]] w fun e w'=>e= .returned (.tuple #[])/\cH w' (dy cg l) v/\kN base (dy cg l) v/\Below base w w':=by
 rcases h.2 with⟨rfl,h0⟩|⟨g,cap,cur,rfl,hbg,hg,h1,h2,h3,h4⟩
 . have hl0:l=[]:=AP.1 h0;subst hl0;refine(PV w).mono ?_;rintro e w' ⟨rfl,hb⟩;exact⟨rfl, .inl ⟨rfl,_,_,rfl⟩, .inl rfl,hb.mono hbase⟩
 . have hgl:=(Ab.1 hg).1;have hs:=PW g 0 cap l.toArray w (Mv hg h4) hgl (by grind);rw[show l.toArray.size=l.length by simp]at hs;refine hs.mono ?_;rintro e w' ⟨rfl,d',n,os,hp,hso,rfl⟩;obtain⟨hd,hsz⟩:=Tx hn (d':=d') (by omega) (by omega);have hH:=holdsK_sortWorldK_c kz 3 w g 0 l.toArray d' n os (Mv hg h4) hgl (by omega);have hlen:(dy cg l).length=l.length:=by rw[<-hd];omega
   refine⟨rfl,?_, .inr ⟨g,0,_,_,rfl,hbg⟩,RT w g 0 n d' os hbg hbase⟩;rw[<-hlen];refine Tm (by omega) ?_;rw[<-hd];omega
end Go.Proofs
namespace Go.Proofs
open Go Go.Am Go.RowKit Go.Sy Go.Gm
def vm:ae:=⟨⟨0,0,0⟩,⟨0,0,0⟩,0,⟨[],[],[]⟩,⟨[],false,false,false,false,0,0,0⟩,[]⟩
def dI:Array Value:=#[.int .i64 0, .int .i64 0, .int .i64 0, .int .i64 0, .int .i64 0, .int .i64 0, .int .i64 0, .string ⟨#[]⟩, .string ⟨#[]⟩, .string ⟨#[]⟩, .string ⟨#[]⟩, .bool false, .bool false, .bool false, .bool false, .int .i64 0, .int .i64 0, .int .i64 0, .slice none 0 0]
theorem GM {w:World} {bk:Nat} {L:List (aq×(Value×ae))} (hm:ay w bk bJ qZ L) (d:aq):(Instr.lookup 102 (.map (some bk)) (bJ d) true).run Tryz.prog w= .ok (.tuple #[((aB L d).map (·.1)).getD (gT vm (.slice none 0 0)), .bool (aB L d).isSome]) w:=by
 rw[hm.lookup iR Tryz.underlying102 (z:=gT vm (.slice none 0 0)) (by kernel_rfl) d true]
 cases aB L d<;>rfl
theorem wo {B:Nat} {w0:World} {b:Nat} (hb:B<=b):∀(vs:List Value) (o:Nat) (w:World),Below B w0 w->Below B w0 (w.setCells b o vs)
 |[],_,_,h=>h
 |v::r,o,w,h=>by
  rw[World.setCells];exact wo hb r (o+1) _ (h.setCell hb v)
theorem R8 (W:World):(W.alloc (.cells dI 78)).drew.there W.heap.size 0 19:=fun j hj=>by
 have h:(W.alloc (.cells dI 78)).drew.heap[W.heap.size]? =some (.cells dI 78 (0,0)):=by
  show(W.alloc (.cells dI 78)).heap[W.heap.size]? =_
  rw[mJ,Al rfl]
 have hs:dI.size=19:=rfl;simp_all
theorem Qd (W:World) (e:ae) (v:Value) (hv:v.oneCell'=true):∃W4,(gT e v).cells.size=19/\(storeCells ⟨W.heap.size,0,none⟩ (gT e v).cells.toList).run Tryz.prog (W.alloc (.cells dI 78)).drew= .ok () W4/\Below W.heap.size W W4/\
  W4.cell? ⟨W.heap.size,6,none⟩=some (.int .i64 e.kind)/\W4.cell? ⟨W.heap.size,7,none⟩=some (cw e.key.name)/\W4.cell? ⟨W.heap.size,8,none⟩=some (cw e.key.domain)/\W4.cell? ⟨W.heap.size,9,none⟩=some (cw e.key.path):=by
 have hth:=R8 W;have hr:=World.rangeAt_setCells_same (W.alloc (.cells dI 78)).drew W.heap.size 0 [.int .i64 e.dot.dev, .int .i64 e.dot.inc, .int .i64 e.dot.seq, .int .i64 e.bL.wall, .int .i64 e.bL.count, .int .i64 e.bL.dev, .int .i64 e.kind,cw e.key.name,cw e.key.domain,cw e.key.path,
  cw e.aa.value, .bool e.aa.aH, .bool e.aa.aR, .bool e.aa.aI, .bool e.aa.persistent, .int .i64 e.aa.aW, .int .i64 e.aa.aj, .int .i64 e.aa.access,v] hth
 refine⟨_,rfl,run_storeCells_cells (P:=Tryz.prog) W.heap.size 0 (gT e v).cells.toList 0 _ (fun j hj=>(by simpa using(hth j hj).1)) (fun j hj=>(by simp)) ?_,wo (Ad _) _ _ _ ((Below.refl W.heap.size W).alloc (Ad _) _).drew,hr 6 _ rfl,hr 7 _ rfl,hr 8 _ rfl,hr 9 _ rfl⟩;intro x hx;rw[CD]at hx;simp only[Value.cells,Ap,BE,Dq]at hx;rcases hx with rfl|rfl|rfl|rfl|rfl|rfl|rfl|rfl|rfl|rfl|rfl|rfl|rfl|rfl|rfl|rfl|rfl|rfl|rfl
 all_goals first|exact hv|rfl
section
theorem Qp (d:aq) (w:World):(Builtin.delete_ #[104,70] 0 #[.map none,bJ d]).run Tryz.prog w= .ok (.tuple #[]) w:=by
 have h:(Instr.checkKey true 10000 70 (bJ d)).run Tryz.prog w= .ok () w:=iR.iS true d w;simp_all[Builtin.delete_]
section
variable {K V:Type} [DecidableEq K]
theorem Wz {A:List (K×V)} {k:K} (h:aB A k=none):di A k=A:=by
 grind [di,List.filter_eq_self,cR]
theorem Yv (A:List (K×V)) (k:K) (v:V):di (cq A k v) k=di A k:=by
 have key:∀A:List (K×V),(A.map fun x=>if k=x.1 then(k,v)else x).filter (fun x=> !decide (k=x.1))=A.filter fun x=> !decide (k=x.1):=by
  intro A;induction A with
  |nil=>rfl
  |cons x A ih=>
   rw[AW,BU,BU,ih];by_cases e:k=x.1<;>simp[e]
 unfold cq di;split
 all_goals grind
end
theorem xr {S:Nat->Prop} {w:World} {j:Nat} {o:Obj} (hm:lO w j) (hS:S j):eT S w (World.aU w j o):=⟨rfl,rfl,rfl,by simp[World.aU],fun k _ hk=>gm hm fun e=>hk (by rw[e];exact hS)⟩
theorem Tryz.kill {w:World} {n b bk ba bd bs bv:Nat} {G:bg} (h:cK w n b bk ba bd bs bv G) (d:aq):
  Calls Tryz.prog 56 #[.pointer (some ⟨b,0,none⟩),bJ d] w fun e' w'=>e'= .returned (.tuple #[])/\eT (dR bk ba bd bv G) w w'/\cK w' n b bk ba bd bs bv (kK G d):=by
 obtain⟨e,v,is,hv,hk,his,hG⟩:∃(e:ae) (v:Value) (is:Bool),v.oneCell'=true/\((aB G.kept d).map (·.1)).getD (gT vm (.slice none 0 0))=gT e v/\(aB G.kept d).isSome=is/\
   kK G d={G with dead:=cq G.dead d 1,alive:=if is=true/\e.kind=1 then oe G.alive e.key d else G.alive}:=by
  cases hg:aB G.kept d with
  |none=>exact⟨vm, .slice none 0 0,false,rfl,rfl,rfl,by unfold kK;rw[hg];simp⟩
  |some x=>
   obtain⟨v,hx,hd⟩:=h.ev _ (mG hg);refine⟨x.2,v,true,?_,hx,rfl,by unfold kK;rw[hg];simp⟩;rcases hd with⟨_,a,c,rfl⟩|⟨_,_,_,_,_,_,rfl,_⟩<;>rfl
 obtain⟨G2,hG2⟩:∃G2,kK G d=G2:=⟨_,rfl⟩;rw[hG2]at hG⊢;obtain⟨W,hW⟩:∃W,(w.alloc (.cells #[.int .i64 d.dev, .int .i64 d.inc, .int .i64 d.seq] 70))=W:=⟨_,rfl⟩;have hb:Below w.heap.size w W:=by rw[<-hW];exact(Below.refl w.heap.size w).alloc (Ad _) _
 have h0:=h.below hb;have d0:W.cell? ⟨w.heap.size,0,none⟩=some (.int .i64 d.dev):=by rw[<-hW];simp
 have d1:W.cell? ⟨w.heap.size,1,none⟩=some (.int .i64 d.inc):=by rw[<-hW];simp
 have d2:W.cell? ⟨w.heap.size,2,none⟩=some (.int .i64 d.seq):=by rw[<-hW];simp
 have hsz:W.heap.size=w.heap.size+1:=by rw[<-hW];simp
 have h1:=h0.below (Below.refl W.heap.size W).drew;have c2:=h0.c2;obtain⟨es,clk,hu,hmu⟩:=h1.md.update iR Tryz.underlying104 d 1;have h2:=h1.pj hmu;have hmb:lO W.drew bd:=ay.isMap h1.md;obtain⟨W2,hW2⟩:∃W2,World.aU W.drew bd (.map es clk)=W2:=⟨_,rfl⟩;have d0':W2.cell? ⟨w.heap.size,0,none⟩=some (.int .i64 d.dev):=by rw[<-hW2];exact qC hmb d0
 have d1':W2.cell? ⟨w.heap.size,1,none⟩=some (.int .i64 d.inc):=by rw[<-hW2];exact qC hmb d1
 have d2':W2.cell? ⟨w.heap.size,2,none⟩=some (.int .i64 d.seq):=by rw[<-hW2];exact qC hmb d2
 rw[hW2]at hu h2;have hbut:eT (dR bk ba bd bv G) w W2:=by
  refine(lZ hb.drew).more (T:=(· =bd)) ⟨by rw[<-hW2];rfl,by rw[<-hW2];rfl,by rw[<-hW2];rfl,by rw[<-hW2];simp[World.aU],fun k _ hk=>by rw[<-hW2];exact gm hmb hk⟩ ?_;rintro i _ rfl;unfold dR;simp
 have hsz2:w.heap.size<W2.heap.size:=by rw[<-hW2];simp[World.aU,hsz]
 obtain⟨W4,hs19,hst,hb4,k6,k7,k8,k9⟩:=Qd W2 e v hv;obtain⟨u,hue⟩:∃u,u=gT e v:=⟨_,rfl⟩;rw[<-hue]at hst hk hs19;clear hue hv;obtain⟨W3,hW3⟩:∃W3,W2.alloc (.cells dI 78)=W3:=⟨_,rfl⟩;have hb3:Below W2.heap.size W2 W3:=by rw[<-hW3];exact(Below.refl W2.heap.size W2).alloc (Ad _) _
 rw[hW3]at hst;have h3:=h2.below hb3.drew;have c0:W3.cell? ⟨b,0,none⟩=some (.map (some bk)):=(h2.below hb3).c0;have d0'':W3.cell? ⟨w.heap.size,0,none⟩=some (.int .i64 d.dev):=(hb3.cell hsz2).trans d0';have d1'':W3.cell? ⟨w.heap.size,1,none⟩=some (.int .i64 d.inc):=(hb3.cell hsz2).trans d1';have d2'':W3.cell? ⟨w.heap.size,2,none⟩=some (.int .i64 d.seq):=(hb3.cell hsz2).trans d2';have h2d:=h2.below (Below.refl W2.heap.size W2).drew;have c0a:=h2.c0;have hlk:=GM h3.iC d;have hlka:=GM h2d.iC d;have h4:=h2.below hb4;have e0:W4.cell? ⟨w.heap.size,0,none⟩=some (.int .i64 d.dev):=(hb4.cell hsz2).trans d0';have e1:W4.cell? ⟨w.heap.size,1,none⟩=some (.int .i64 d.inc):=(hb4.cell hsz2).trans d1';have e2:W4.cell? ⟨w.heap.size,2,none⟩=some (.int .i64 d.seq):=(hb4.cell hsz2).trans d2';rw[show G.kept=({G with dead:=cq G.dead d 1}:bg).kept from rfl]at hk his;rw[hk,his]at hlk hlka;rw[show bJ d= .agg #[.int .i64 d.dev, .int .i64 d.inc, .int .i64 d.seq]from rfl]at hlk hlka hu⊢;rw[show cD 1= .int .i64 1 from rfl]at hu;unfold dI at hW3;simp only[Value.cells]at hst hs19;clear h h0 h1 hmu hW2 h3 h2d hk;go_enter Tryz.func56,Tryz.ntmps56
 go_wp2_with fail
 go_region
 go_wp2_with fail
 go_region
 have hbut4:eT (dR bk ba bd bv G) w W4:=hbut.more (lZ (S:=fun _=>False) hb4) fun _ _ h=>h.elim
 by_cases hin:is=true/\e.kind=1
 case neg=>
  rw[An hin]at hG;have h5:cK W4 n b bk ba bd bs bv G2:=by rw[hG];exact h4
  clear hG2 hG
  cases is with
  |false=>
   go_wp2;refine bodyPost_ret (results_none rfl _ _ _) rfl ?_;exact⟨rfl,hbut4,h5⟩
  |true=>
   have hkd:¬e.kind=1:=fun hh=>hin ⟨rfl,hh⟩
   go_wp2;refine bodyPost_ret (results_none rfl _ _ _) rfl ?_;exact⟨rfl,hbut4,h5⟩
 case pos=>
  obtain⟨rfl,hkd⟩:=hin;rw[Al ⟨rfl,hkd⟩]at hG;rw[hkd]at k6;have h4d:=h4.below (Below.refl W4.heap.size W4).drew;have c1:=h4.c1;have hlk4:=jT h4d.ma e.key;rw[show cZ e.key= .agg #[cw e.key.name,cw e.key.domain,cw e.key.path]from rfl]at hlk4;unfold oe at hG
  cases hj:aB G.alive e.key with
  |none=>
   rw[show({G with dead:=cq G.dead d 1}:bg).alive=G.alive from rfl,hj]at hlk4;rw[hj]at hG;simp only[BP]at hlk4;have hdn:=Qp d W4.drew;rw[show bJ d= .agg #[.int .i64 d.dev, .int .i64 d.inc, .int .i64 d.seq]from rfl]at hdn;have h5:=h4d.below (Below.refl W4.drew.heap.size W4.drew).drew;have h6:=h5.below (Below.refl W4.drew.drew.heap.size W4.drew.drew).drew;have hlk5:=jT h5.ma e.key;rw[show cZ e.key= .agg #[cw e.key.name,cw e.key.domain,cw e.key.path]from rfl]at hlk5;rw[show({G with dead:=cq G.dead d 1}:bg).alive=G.alive from rfl,hj]at hlk5;simp only[BP]at hlk5;obtain⟨es6,clk6,hu6,hm6⟩:=h6.ma.delete (ts:=#[103,57]) (ty:=0) yY Tryz.underlying103 e.key rfl;rw[show cZ e.key= .agg #[cw e.key.name,cw e.key.domain,cw e.key.path]from rfl]at hu6;have h7:=h6.kr hm6;rw[show({G with dead:=cq G.dead d 1}:bg).alive=G.alive from rfl,Wz hj]at h7;have hb7:eT (dR bk ba bd bv G) w (World.aU W4.drew.drew.drew ba (.map es6 clk6)):=hbut4.drew.drew.drew.trans (xr (S:=dR bk ba bd bv G) (ay.isMap h6.ma) (by unfold dR;simp));have h8:cK (World.aU W4.drew.drew.drew ba (.map es6 clk6)) n b bk ba bd bs bv G2:=by rw[hG];exact h7
   clear h4 h4d h5 h6 h7 hm6 hG hG2;go_wp2_with fail
   go_region
   go_wp2_with fail
   go_region
   go_wp2_with fail
   go_region
   go_wp2;go_end0
   exact⟨rfl,hb7,h8⟩
  |some x=>
   obtain⟨j,L⟩:=x;have hj':aB ({G with dead:=cq G.dead d 1}:bg).alive e.key=some (j,L):=hj;rw[hj']at hlk4;rw[hj]at hG;simp only[Bz]at hlk4;simp only at hG;have hjm:=mG hj';obtain⟨es5,clk5,hu5,hm5⟩:=(h4d.mi _ hjm).delete (ts:=#[104,70]) (ty:=0) iR Tryz.underlying104 d rfl;rw[show bJ d= .agg #[.int .i64 d.dev, .int .i64 d.inc, .int .i64 d.seq]from rfl]at hu5;have h5:=h4d.iO hj' hm5;have hmj:lO W4.drew j:=ay.isMap (h4d.mi _ hjm);have hb5:eT (dR bk ba bd bv G) w (World.aU W4.drew j (.map es5 clk5)):=hbut4.drew.trans (xr (S:=dR bk ba bd bv G) hmj (by unfold dR;simp only[Ap,Aw];exact .inr (.inr (.inr (.inr ⟨_,mG hj,rfl⟩)))));obtain⟨W5,hW5⟩:∃W5,World.aU W4.drew j (.map es5 clk5)=W5:=⟨_,rfl⟩;have q7:W5.cell? ⟨W2.heap.size,7,none⟩=some (cw e.key.name):=by rw[<-hW5];exact qC hmj k7
   have q8:W5.cell? ⟨W2.heap.size,8,none⟩=some (cw e.key.domain):=by rw[<-hW5];exact qC hmj k8
   have q9:W5.cell? ⟨W2.heap.size,9,none⟩=some (cw e.key.path):=by rw[<-hW5];exact qC hmj k9
   rw[hW5]at hu5 h5 hb5;have c1':=h5.c1;have hget:aB (cq G.alive e.key (j,di L d)) e.key=some (j,di L d):=by rw[jw];simp
   have h6:=h5.below (Below.refl W5.heap.size W5).drew;have hlk6:=jT h6.ma e.key;rw[show cZ e.key= .agg #[cw e.key.name,cw e.key.domain,cw e.key.path]from rfl,show({G with dead:=cq G.dead d 1,alive:=cq G.alive e.key (j,di L d)}:bg).alive=cq G.alive e.key (j,di L d)from rfl,hget]at hlk6;simp only[Bz]at hlk6;obtain⟨esl,clkl,hbl,hszl⟩:=(h6.mi _ (mG hget)).len;have hlen:(Builtin.len_ #[104] 3 #[.map (some j)]).run Tryz.prog W5.drew= .ok (.int .i64 (di L d).length) W5.drew:=by
     rw[run_len_map W5.drew 104 3 j esl clkl (by simp[Program.mapKeyOf,Program.mapElemOf,Tryz.underlying104]) hbl,hszl];rfl
   by_cases hnil:di L d=[]
   . rw[Al hnil]at hG;have hz:((di L d).length:Int)=0:=by rw[hnil];rfl
     rw[hz]at hlen;have h7:=h6.below (Below.refl W5.drew.heap.size W5.drew).drew;obtain⟨es8,clk8,hu8,hm8⟩:=h7.ma.delete (ts:=#[103,57]) (ty:=0) yY Tryz.underlying103 e.key rfl;rw[show cZ e.key= .agg #[cw e.key.name,cw e.key.domain,cw e.key.path]from rfl]at hu8;have h8:=h7.kr hm8;rw[show({G with dead:=cq G.dead d 1,alive:=cq G.alive e.key (j,di L d)}:bg).alive=cq G.alive e.key (j,di L d)from rfl,Yv]at h8;have hb9:eT (dR bk ba bd bv G) w (World.aU W5.drew.drew ba (.map es8 clk8)):=hb5.drew.drew.trans (xr (S:=dR bk ba bd bv G) (ay.isMap h7.ma) (by unfold dR;simp));have h9:cK (World.aU W5.drew.drew ba (.map es8 clk8)) n b bk ba bd bs bv G2:=by rw[hG];exact h8
     clear h4 h4d h5 h6 h7 h8 hm8 hm5 hG hG2 hget hbl hnil hj hj' hW5;go_wp2_with fail
     go_region
     go_wp2_with fail
     go_region
     go_wp2_with fail
     go_region
     go_wp2;go_end0
     exact⟨rfl,hb9,h9⟩
   . rw[An hnil]at hG;have hz:decide (((di L d).length:Int)=0)=false:=A5 (by
      intro h0;exact hnil (AP.1 (by omega)))
     have h9:cK W5.drew n b bk ba bd bs bv G2:=by rw[hG];exact h6
     have hz':((((di L d).length:Int))==0)=false:=by simpa using hz
     clear h4 h4d h5 h6 hm5 hG hG2 hget hbl hj hj' hW5;go_wp2_with fail
     go_region
     go_wp2_with fail
     go_region
     go_wp2;go_end0
     exact⟨rfl,hb5.drew,h9⟩
end
def cN (e:ae) (v:Value):List Value:=[.int .i64 e.dot.dev, .int .i64 e.dot.inc, .int .i64 e.dot.seq, .int .i64 e.bL.wall, .int .i64 e.bL.count, .int .i64 e.bL.dev, .int .i64 e.kind,cw e.key.name,cw e.key.domain,cw e.key.path,
 cw e.aa.value, .bool e.aa.aH, .bool e.aa.aR, .bool e.aa.aI, .bool e.aa.persistent, .int .i64 e.aa.aW, .int .i64 e.aa.aj, .int .i64 e.aa.access,v]
theorem zB {e:ae} {v:Value} (hv:v.oneCell'=true):∀x∈cN e v,x.oneCell'=true:=by
 intro x hx;simp only[cN,Ap,BE,Dq]at hx;rcases hx with rfl|rfl|rfl|rfl|rfl|rfl|rfl|rfl|rfl|rfl|rfl|rfl|rfl|rfl|rfl|rfl|rfl|rfl|rfl
 all_goals first|exact hv|rfl
theorem Qe:∃fs,Tryz.prog.underlying 78=some (.struct fs):=⟨_,Tryz.underlying78⟩
theorem Qr {W:World} {b:Nat} {e:ae} {v:Value} (h:W.rangeAt b 0 (cN e v)):(loadVar 78 ⟨b,0,none⟩).run Tryz.prog W= .ok (gT e v) W:=by
 obtain⟨fs,hu⟩:=Qe;exact run_loadVar_mid W b 0 78 (cN e v) _ h hu rfl (by kernel_rfl)
theorem Gh {W:World} {b:Nat} {e:ae} {v:Value} (h:W.rangeAt b 0 (cN e v)):(loadCellsFrom ⟨b,0,none⟩ 0 19 #[]).run Tryz.prog W= .ok (cN e v).toArray W:=by
 have hl:(loadCells ⟨b,0,none⟩ (cN e v).length).run Tryz.prog W= .ok (cN e v).toArray W:=
  run_loadCells_list (P:=Tryz.prog) W ⟨b,0,none⟩ (cN e v) (fun j v hv=>by rw[Addr.add_mid];exact h j v hv)
 exact hl
def Hid (p:Prop):Prop:=p
theorem uE:∃(SZ:Sem Nat) (m:Nat),sizeOf 78=SZ/\(∀w,SZ.run Tryz.prog w= .ok m w)/\Hid (m=19):=⟨_,_,rfl,Tryz.sizeOf78,rfl⟩
theorem Hk {W:World} {b:Nat} {e:ae} {v:Value} (hv:v.oneCell'=true) (hth:W.there b 0 19):(gT e v).cells.size=19/\(storeCells ⟨b,0,none⟩ (gT e v).cells.toList).run Tryz.prog W= .ok () (W.setCells b 0 (cN e v)):=
 ⟨rfl,run_storeCells_cells (P:=Tryz.prog) b 0 (cN e v) 0 W (fun j hj=>(by simpa using(hth j hj).1)) (fun j hj=>(by simpa using(hth j hj).2)) (zB hv)⟩
theorem ug (W:World) (e:ae) (v:Value):(W.alloc (.cells (gT e v).cells 78)).rangeAt W.heap.size 0 (cN e v):=fun j x hx=>by
 have h:(W.alloc (.cells (gT e v).cells 78)).heap[W.heap.size]? =some (.cells (cN e v).toArray 78 (0,0)):=by
  rw[mJ,Al rfl];rfl
 grind [World.cell?]
theorem fT {W W':World} (hc:jk W W') {b o:Nat} {cs:List Value} (h:W.rangeAt b o cs):W'.rangeAt b o cs:=fun j x hx=>by
 have h1:=h j x hx;refine ep h1 ?_;unfold World.cell? at h1
 cases e:W.heap[b]? with
 |none=>grind
 |some q=>
  cases q with
  |cells arr t fz=>exact hc _ _ _ _ e
  |_=>simp[e]at h1
theorem zP {W W':World} (hc:jk W W') {b n:Nat} (h:W.there b 0 n) (hn:0<n):W'.there b 0 n:=by
 have h1:=(h 0 hn).1;have hb:W'.heap[b]? =W.heap[b]? :=by
  obtain⟨u,hu⟩:=Bp.1 h1;unfold World.cell? at hu
  cases e:W.heap[b]? with
  |none=>grind
  |some q=>
   cases q with
   |cells arr t fz=>exact hc _ _ _ _ e
   |_=>simp[e]at hu
 intro j hj;have h2:=h j hj;grind [World.cell?,World.frozen?]
theorem zM (W:World) (cs:Array Value):(W.alloc (.cells cs 78)).there W.heap.size 0 cs.size:=fun j hj=>by
 have h:(W.alloc (.cells cs 78)).heap[W.heap.size]? =some (.cells cs 78 (0,0)):=by rw[mJ,Al rfl]
 simp_all
theorem TC {W W':World} {b n:Nat} (hb:W'.heap[b]? =W.heap[b]?) (h:W.there b 0 n):W'.there b 0 n:=by
 intro j hj;have h2:=h j hj;grind [World.cell?,World.frozen?]
theorem Sc {W:World} {b:Nat} {e:ae} {v v':Value} (h:W.rangeAt b 0 (cN e v)):(W.setCell ⟨b,18,none⟩ v').rangeAt b 0 (cN e v'):=by
 have h18:=h 18 v rfl;intro j x hx;have hj:j<19:=(Ae.1 hx).1;by_cases e18:j=18
 . subst e18
   cases hx;grind [World.cell?_setCell_same']
 . have hx':(cN e v)[j]? =some x:=by
     match j,hj with
     |0,_|1,_|2,_|3,_|4,_|5,_|6,_|7,_|8,_|9,_|10,_|11,_|12,_|13,_|14,_|15,_|16,_|17,_=>exact hx
     |18,_=>omega
   rw[World.cell?_setCell_other]
   . exact h j x hx'
   grind
theorem RY {fn:Func} {t:Tmp} {ty:TypeId} (h:fn.results=#[.cell t ty]) {tmps:Array Value} {w:World} {a:Addr} {v:Value} (hp:tmps.getD t undef= .pointer (some a)) (hl:(loadVar ty a).run Tryz.prog w= .ok v w):(results fn tmps).run Tryz.prog w= .ok v w:=by
 have hp':tmps[t]?.getD undef= .pointer (some a):=by simp_all
 simp_all[results,asAddr]
theorem cH.one {w:World} {l:List aq} {v:Value} (h:cH w l v):∃a n c,v= .slice a n c:=by
 rcases h with⟨_,a,c,rfl⟩|⟨_,_,_,_,_,_,rfl,_⟩<;>exact⟨_,_,_,rfl⟩
theorem Ia {B:Nat} (b:Nat):∀(vs:List Value) (o:Nat) (w:World) (k:Nat),k≠b->(w.setCells b o vs).heap[k]? =w.heap[k]?
 |[],_,_,_,_=>rfl
 |v::r,o,w,k,h=>by
  rw[World.setCells,Ia (B:=B) b r (o+1) _ k h];grind [Below.heap_setCell]
theorem size_setCells (b:Nat):∀(vs:List Value) (o:Nat) (w:World),(w.setCells b o vs).heap.size=w.heap.size
 |[],_,_=>rfl
 |v::r,o,w=>by rw[World.setCells,size_setCells b r (o+1)];simp
def qf (w:World) (n:Nat) (u:Value) (e:ae):Prop:=∃v,u=gT e v/\dm w n e.over v
theorem qf.ev {w:World} {n:Nat} {u:Value} {e:ae} (h:qf w n u e):ja w u e:=by
 obtain⟨v,h1,h2⟩:=h;exact⟨v,h1,h2.cL⟩
theorem qf.mono {w:World} {n m:Nat} {u:Value} {e:ae} (h:qf w n u e) (hm:m<=n):qf w m u e:=by
 obtain⟨v,h1,h2⟩:=h;exact⟨v,h1,h2.mono hm⟩
theorem Qk {w3:World} {bx bz n:Nat} {e:ae} {v v':Value} (r3:w3.rangeAt bx 0 (cN e v)) (t3:w3.there bx 0 19) (t4:w3.there bz 0 19) (hne:bz≠bx) (hd:dm w3 n e.over v') (hx:bx<n) (hz:bz<n):
   ∃cs W4 W5,w3.setCell ⟨bx,18,none⟩ v'=W4/\w3.cell? ⟨bx,18,none⟩=some v/\w3.frozen? ⟨bx,18,none⟩=false/\(loadCellsFrom ⟨bx,0,none⟩ 0 19 #[]).run Tryz.prog W4= .ok cs W4/\cs.size=19/\(storeCells ⟨bz,0,none⟩ cs.toList).run Tryz.prog W4= .ok () W5/\
    (loadVar 78 ⟨bz,0,none⟩).run Tryz.prog W5= .ok (.agg cs) W5/\qf W5 n (.agg cs) e/\ ∀B,B<=bx->B<=bz->Below B w3 W5:=by
 have hv:=hd.one;obtain⟨sa,sn,sc,rfl⟩:=hv;have r4:(w3.setCell ⟨bx,18,none⟩ (.slice sa sn sc)).rangeAt bx 0 (cN e (.slice sa sn sc)):=Sc r3;have t5:(w3.setCell ⟨bx,18,none⟩ (.slice sa sn sc)).there bz 0 19:=TC (Below.heap_setCell _ _ _ _ hne) t4;obtain⟨s19,hst⟩:=Hk (e:=e) (v:= .slice sa sn sc) rfl t5;have r5:=World.rangeAt_setCells_same (w3.setCell ⟨bx,18,none⟩ (.slice sa sn sc)) bz 0 (cN e (.slice sa sn sc)) t5;refine⟨(cN e (.slice sa sn sc)).toArray,_,_,rfl,r3 18 v rfl,(t3 18 (by omega)).2,Gh r4,rfl,hst,Qr r5,⟨_,rfl,hd.bn fun b _ hb _=>?_⟩,fun B h1 h2=>?_⟩
 . rw[Ia (B:=0) bz _ _ _ _ (by omega),Below.heap_setCell _ _ _ _ (by grind)]
 . exact wo h2 _ _ _ ((Below.refl _ _).setCell h1 _)
theorem GZ {w:World} {e:ae} {u:Value} (h:ja w u e) (hl:e.over.length<=100000):Calls Tryz.prog 53 #[u] w fun e' w'=>∃u',e'= .returned u'/\qf w' w.heap.size u' e/\Below w.heap.size w w':=by
 obtain⟨v,hu,hd⟩:=h;obtain⟨va,vn,vc,hve⟩:=hd.one;obtain⟨cs,hcs⟩:∃cs:Array Value,(cN e v).toArray=cs:=⟨_,rfl⟩;have hu':u= .agg cs:=by rw[hu,<-hcs];rfl
 clear hu;subst hu';obtain⟨W,hW⟩:∃W,w.alloc (.cells cs 78)=W:=⟨_,rfl⟩;have hb:Below w.heap.size w W:=by rw[<-hW];exact(Below.refl w.heap.size w).alloc (Ad _) _
 have hr:W.rangeAt w.heap.size 0 (cN e v):=by rw[<-hW,<-hcs];exact ug w e v
 have hs:W.heap.size=w.heap.size+1:=by rw[<-hW];simp
 have ht:W.there w.heap.size 0 19:=by
  have:=zM w cs;rw[hW,show cs.size=19 by rw[<-hcs];rfl]at this;omega
 obtain⟨W2,hW2⟩:∃W2,W.alloc (.cells dI 78)=W2:=⟨_,rfl⟩;have hb2:Below W.heap.size W W2:=by rw[<-hW2];exact(Below.refl W.heap.size W).alloc (Ad _) _
 have ht2:W2.there W.heap.size 0 19:=by
  have:=zM W dI;rw[hW2]at this;exact this
 have hs2:W2.heap.size=w.heap.size+2:=by rw[<-hW2];simp[hs]
 have hc2:jk w W2:=fun b arr t fz hx=>dS hb2 _ _ _ _ (dS hb _ _ _ _ hx)
 have k18:W2.cell? ⟨w.heap.size,18,none⟩=some v:=fT (dS hb2) hr 18 v rfl;have hcall:=P7 (hd.cells hc2) hl;rw[hve]at hcall k18;obtain⟨SZ,m,hSZ,hsz,hm⟩:=uE;have hr2:W2.rangeAt w.heap.size 0 (cN e v):=fT (dS hb2) hr;have ht1:W2.there w.heap.size 0 19:=zP (dS hb2) ht (by omega);rw[hs]at ht2;unfold dI at hW2;clear hcs hve;go_enter Tryz.func53,Tryz.ntmps53
 go_wp2_with (go_at_call 86;go_loud (refine hcall.mono ?_;rintro e' w3 ⟨v',rfl,hd3,hb3⟩;obtain⟨cs',W4,W5,hW4,k3,f3,x1,s19,hst,x2,hev,hbel⟩:=Qk (fT (dS hb3) hr2) (zP (dS hb3) ht1 (by omega)) (zP (dS hb3) ht2 (by omega)) (by omega) hd3 (by omega) (by omega);obtain⟨sa,sn,sc,rfl⟩:=hd3.one;rw[<-(hm:m=19)]at x1 s19;clear hm;have hbf:=(hb.trans ((hb2.mono (by omega)).trans (hb3.mono (by omega)))).trans (hbel w.heap.size (Ad _) (by omega))))
 refine bodyPost_ret (RY rfl rfl x2) rfl ?_;exact⟨_,rfl,hev.mono (by omega),hbf⟩
theorem Qq {w:World} {e:ae} {u:Value} (h:ja w u e) (hl:e.over.length<=100000):Calls Tryz.prog 53 #[u] w fun e' w'=>∃u',e'= .returned u'/\ja w' u' e/\Below w.heap.size w w':=by
 refine(GZ h hl).mono ?_;rintro e' w' ⟨u',rfl,h1,h2⟩;exact⟨u',rfl,h1.ev,h2⟩
end Go.Proofs
namespace Go.Proofs
open Go Go.Am Go.RowKit Go.Sy Go.Gm Go.Maps Go.Sort Go.Shelf
theorem kN.mono {n m:Nat} {l:List aq} {v:Value} (h:kN n l v) (hm:m<=n):kN m l v:=by
 rcases h with h|⟨b,off,k,c,h,hb⟩
 . exact .inl h
 . exact .inr ⟨b,off,k,c,h,Ar hm hb⟩
theorem PT (b:Nat) (w:World):Calls Tryz.prog 216 #[.map (some b)] w fun e w'=>e= .returned (.func (.func 248) #[] #[.pointer (some ⟨w.heap.size,0,none⟩)])/\w'=w.alloc (.cells #[.map (some b)] 104):=by
 go_enter Tryz.func216,Tryz.ntmps216
 go_wp2;go_ret;simp_all
theorem Qa {w:World} {Bm b:Nat} {L:DL} (hm:w.cell? ⟨Bm,0,none⟩=some (.map (some b))) (hown:ay w b bJ cD L) (hl:L.length<=1000000):
  Calls Tryz.prog 215 #[.func (.func 248) #[] #[.pointer (some ⟨Bm,0,none⟩)], .func (.func 217) #[] #[]] w fun e w'=>∃v,e= .returned v/\cH w' (dy cg (L.map (·.1))) v/\kN w.heap.size (dy cg (L.map (·.1))) v/\Below w.heap.size w w':=by
 letI:Inhabited aF:=⟨⟨True,#[]⟩⟩
 have hcol:=callsIn_wide.1 (Ow 3 (Ad _) _ _ L.length hl w (OH 1 (Ad _) Bm b L w (iI hm) hm hown));go_enter Tryz.func215,Tryz.ntmps215
 go_wp2_with (first
  |(go_at_call 246;refine hcol.mono ?_;rintro e w1 ⟨v,ss,rfl,hS,hrow,hb1⟩;have hnd:ss.Nodup:=hS.nodup_iff.2 hown.nd;have hsl:ss.length<=1000000:=hS.length_eq.trans (A1 _)▸hl;have hsort:=OZ hnd hrow hsl hb1.size)
  |(go_at_call 247;refine hsort.mono ?_;rintro e w2 ⟨rfl,hd,hn,hb2⟩))
 go_ret;have heq:dy cg ss=dy cg (L.map (·.1)):=uK (wG ss) fun x=>by rw[qD];grind
 rw[heq]at hd hn;exact⟨v,rfl,hd,hn,hb1.trans hb2⟩
theorem rV {w:World} {bd:Nat} {L:DL} (hm:ay w bd bJ cD L) (d:aq):(Instr.lookup 104 (.map (some bd)) (bJ d) false).run Tryz.prog w= .ok (.int .i64 ((aB L d).getD 0)) w:=by
 rw[hm.lookup iR Tryz.underlying104 (vG w) d false]
 cases aB L d<;>rfl
theorem UF {K V:Type} [DecidableEq K] [Inhabited V] {L:List (K×V)} {k:K} (hk:k∉L.map (·.1)) (z:V):aB (L++[(k,z)]) k=some z:=by
 have:=jw L k k z;grind [cq]
theorem WR {K V:Type} [DecidableEq K] {L:List (K×V)} {k:K} {v:V} (x:K):x∈(cq L k v).map (·.1)↔x=k\/x∈L.map (·.1):=by
 have h:=jw L k x v;grind [cR]
theorem VV {l:List aq} {k:Nat} (hlt:k<l.length) {M:DL} {v:Int} (h:∀d,d∈M.map (·.1)↔d∈l.take k):∀d,d∈(cq M l[k] v).map (·.1)↔d∈l.take (k+1):=fun d=>by
 rw[WR,h,El,Ag hlt,Di];grind
theorem Yd {M:DL} {d:aq} {v:Int} {k:Nat} (h:M.length<=k):(cq M d v).length<=k+1:=by
 grind [cq]
theorem XO {M:DL} {k:Nat} (h:∀d,0<=(aB M d).getD 0/\(aB M d).getD 0<=(k:Int)) {e:aq}:∀d,0<=(aB (cq M e ((aB M e).getD 0+1)) d).getD 0/\(aB (cq M e ((aB M e).getD 0+1)) d).getD 0<=((k+1:Nat):Int):=fun d=>by
 rw[jw];have h1:=h e;have h2:=h d;grind
theorem Ox {w:World} {l:List aq} {v:Value} (h:cH w l v) (hl:l.length<=1000000):
  Calls Tryz.prog 172 #[v] w fun e w'=>∃v',e= .returned v'/\cH w' (dy cg l) v'/\kN w.heap.size (dy cg l) v'/\Below w.heap.size w w':=by
 letI:Inhabited aF:=⟨⟨True,#[]⟩⟩
 obtain⟨sa,sn,sc,rfl⟩:=h.one;have hsn:sn=l.length:=by
  rcases h with⟨h0,a,c,hh⟩|⟨_,_,_,_,_,_,hh,_⟩
  all_goals grind
 subst hsn;have hmm:= @run_makeMap Tryz.prog;go_enter Tryz.func172,Tryz.ntmps172
 go_wp2;go_loopw [9] (fun i wr=>∃(k:Nat) (M:DL),k<=l.length/\i= .int .i64 k/\ay wr w.heap.size bJ cD M/\(∀d,d∈M.map (·.1)↔d∈l.take k)/\M.length<=k/\(∀d,0<=(aB M d).getD 0/\(aB M d).getD 0<=k)/\Below w.heap.size w wr)
  (fun i _=>l.length - (intOf i).toNat)
 case atStart=>exact⟨0,[],Au _,rfl,sD (by rw[mJ,Al rfl]),by simp,Au _,fun d=>by simp[sO],(Below.refl _ _).alloc (Ad _) _⟩
 case round=>
  obtain⟨k,M,hk,rfl,hM,hmem,hml,hcnt,hbr⟩:=hrel;by_cases hlt:k<l.length
  . rcases h with⟨h0,_⟩|⟨ob,off,cap,arr,ty,fz,hh,hob,hcap,hlen,hcells⟩
    . rw[h0]at hlt;grind
    . simp only[Value.slice.injEq]at hh;obtain⟨rfl, -,rfl⟩:=hh;obtain⟨x0,x1,x2⟩:=hcells k hlt;have hobr:=(hbr.block ob (Ab.1 hob).1).trans hob;have cell:∀{j:Nat} {u:Value},arr[j]? =some u->wr.cell? ⟨ob,j,none⟩=some u:=fun hx=>by
       grind [World.cell?]
      have c0:=cell x0;have c1:=cell x1;have c2:=cell x2;obtain⟨W,hW⟩:∃W,wr.alloc (.cells #[.int .i64 l[k].dev, .int .i64 l[k].inc, .int .i64 l[k].seq] 70)=W:=⟨_,rfl⟩;have hbW:Below wr.heap.size wr W:=by rw[<-hW];exact(Below.refl _ _).alloc (Ad _) _
      have d0:W.cell? ⟨wr.heap.size,0,none⟩=some (.int .i64 l[k].dev):=by rw[<-hW];simp
      have d1:W.cell? ⟨wr.heap.size,1,none⟩=some (.int .i64 l[k].inc):=by rw[<-hW];simp
      have d2:W.cell? ⟨wr.heap.size,2,none⟩=some (.int .i64 l[k].seq):=by rw[<-hW];simp
      have hMW:ay W.drew w.heap.size bJ cD M:=hM.same (hbW.drew.block _ (Go.Gm.ay.lt hM));have hlk:=rV hMW l[k];have hz0:=(hcnt l[k]).1;have hz1:=(hcnt l[k]).2;have hwr:IntKind.i64.wrap ((aB M l[k]).getD 0+1)=(aB M l[k]).getD 0+1:=IntWalk.i64_in _ (by omega);have hwr':wrap64 ((aB M l[k]).getD 0+1)=(aB M l[k]).getD 0+1:=IntWalk.wrap64_in _ (by omega);obtain⟨ev,en,o1,o2,he1,he2,hmb,hM2,hM1⟩:=hMW.entry iR Tryz.underlying104 (z:=0) (fun w=>vG w) l[k] ((aB M l[k]).getD 0+1);have hlk1:(Instr.lookup 104 (.map (some w.heap.size)) (bJ l[k]) false).run Tryz.prog (World.aU W.drew w.heap.size o1)= .ok (.int .i64 ((aB M l[k]).getD 0)) (World.aU W.drew w.heap.size o1):=by
       rcases hM1 with hM1|⟨hk1,hM1⟩
       . grind [rV]
       . rw[rV hM1 l[k],UF hk1,cR.2 hk1];rfl
      have hs1:∀j,j≠w.heap.size->(World.aU W.drew w.heap.size o1).heap[j]? =W.heap[j]? :=fun j hj=>gm hMW.isMap hj
      have hs2:∀j,j≠w.heap.size->(World.aU (World.aU W.drew w.heap.size o1) w.heap.size o2).heap[j]? =W.heap[j]? :=fun j hj=>(gm hmb hj).trans (hs1 j hj)
      have hne:wr.heap.size≠w.heap.size:=Nat.ne_of_gt (Go.Gm.ay.lt hM);have hB2:Below w.heap.size w (World.aU (World.aU W.drew w.heap.size o1) w.heap.size o2):=⟨hbW.os.trans hbr.os,hbW.tape.trans hbr.tape,hbW.output.trans hbr.output,by have h1:=hbW.size;have h2:=hbr.size;simp[World.aU];omega,fun j hj=>((hs2 j (Nat.ne_of_lt hj)).trans (hbW.block j (AR hj hbr.size))).trans (hbr.block j hj)⟩;obtain⟨W1,hW1⟩:∃W1,World.aU W.drew w.heap.size o1=W1:=⟨_,rfl⟩;rw[hW1]at he1 he2 hmb hM2 hlk1 hs1 hs2 hB2;obtain⟨W2,hW2⟩:∃W2,World.aU W1 w.heap.size o2=W2:=⟨_,rfl⟩;rw[hW2]at he2 hM2 hs2 hB2;have p0:W2.cell? ⟨wr.heap.size,0,none⟩=some (.int .i64 l[k].dev):=ep d0 (hs2 _ hne);have p1:W2.cell? ⟨wr.heap.size,1,none⟩=some (.int .i64 l[k].inc):=ep d1 (hs2 _ hne);have p2:W2.cell? ⟨wr.heap.size,2,none⟩=some (.int .i64 l[k].seq):=ep d2 (hs2 _ hne);have q0:W1.cell? ⟨wr.heap.size,0,none⟩=some (.int .i64 l[k].dev):=ep d0 (hs1 _ hne);have q1:W1.cell? ⟨wr.heap.size,1,none⟩=some (.int .i64 l[k].inc):=ep d1 (hs1 _ hne);have q2:W1.cell? ⟨wr.heap.size,2,none⟩=some (.int .i64 l[k].seq):=ep d2 (hs1 _ hne);clear hM1 hmb hMW hs1 hs2;rw[show bJ l[k]= .agg #[.int .i64 l[k].dev, .int .i64 l[k].inc, .int .i64 l[k].seq]from rfl]at hlk hlk1 he1;rw[show cD ((aB M l[k]).getD 0+1)= .int .i64 ((aB M l[k]).getD 0+1)from rfl]at he2;unfold goInt at he1 he2;go_wp2;go_region_held3 (fun w'=>w'.cell? ⟨wr.heap.size,0,none⟩=some (.int .i64 l[k].dev)/\w'.cell? ⟨wr.heap.size,1,none⟩=some (.int .i64 l[k].inc)/\w'.cell? ⟨wr.heap.size,2,none⟩=some (.int .i64 l[k].seq)) (simp[*]) (fail)
      all_goals go_wp2
      all_goals (
       go_roundw
       case rel=>exact⟨k+1,_,hlt,by go_num,hM2,VV hlt hmem,Yd hml,XO hcnt,hB2⟩
       case measure=>simp[intOf];omega)
  . have hkl:k=l.length:=by omega
    subst hkl;rw[A8]at hmem;have hmk:=PT w.heap.size wr;go_wp2_with (first
      |(go_at_call 216;refine hmk.mono ?_;rintro e w1 ⟨rfl,rfl⟩;have hsf:=Qa (w:=wr.alloc (.cells #[.map (some w.heap.size)] 104)) (Bm:=wr.heap.size) (by simp) (hM.same (Below.heap_alloc _ _ _ (Go.Gm.ay.lt hM))) (Ar hml hl))
      |(go_at_call 215;refine hsf.mono ?_;rintro e w2 ⟨v',rfl,hd,hn,hb2⟩))
    go_ret;have heq:dy cg (M.map (·.1))=dy cg l:=uK (wG _) fun x=>by rw[qD];grind
    rw[heq]at hd hn;have hs1:=hbr.size;exact⟨v',rfl,hd,kN.mono hn (by simp;omega),hbr.trans (((Below.refl _ _).alloc hs1 _).trans (hb2.mono (by simp;omega)))⟩
theorem QX {P:Program} {ops:Array Oper} {o:Oper} {a:Act} {w:World} {K:Act->World->Prop} {Q:Exit->Act->World->Prop} {E:Prop} (hg:o.guard=none) (s x:Operand) (t:TypeId)
  (ho:o.op= .call {callee:= .builtin .append,args:=#[s,x],argTypes:=#[t,t]})
  (base:Nat) (e:TypeId) (i:TypeInfo) (z:Value) (size bytes:Nat) (ht:P.underlying t=some (.slice e)) (hi:P.info? e=some i) (hz:i.zero=some z)
  (hsize:i.size=size) (hby:i.bytes=bytes) (hzs:z.cells.size=size) (hsz:0<size)
  (v:Value) (n:Nat) (xs:List Value) (hs:a.eval s=v) (hown:w.ownsRow base e size v n xs)
  (ad:Addr) (m c:Nat) (news:List Value) (hx:a.eval x= .slice (some ad) m c) (hl:news.length=m*size) (hnews:∀j u,news[j]? =some u->w.cell? (ad.add j)=some u) (h1:∀u∈news,u.oneCell'=true)
  (h63:n+m<=maxLen) (hbytes:(n+m)*bytes<=140737488355328) (hbase:base<=w.heap.size)
  (h:∀v' w',w'.ownsRow base e size v' (n+m) (xs++news)->w.grownBy w' v.ownBlock->K (a.put o.dst v') w'):
  if Region.wanted o (yielded ops a.tmps)=true then Oper.wp P o a w K Q else E:=by
 have hw:Region.wanted o (yielded ops a.tmps)=true:=by grind [Region.wanted]
 rw[Al hw];grind [wp_append_own]
def gh (L:List (ae×Value)):List Value:=L.flatMap fun x=>cN x.1 x.2
theorem U8 (L:List (ae×Value)) (x:ae×Value):gh (L++[x])=gh L++cN x.1 x.2:=by
 grind [gh]
theorem LA (L:List (ae×Value)) (i:Nat) (h:i<L.length) (j:Nat) (hj:j<19):(gh L)[i*19+j]? =(cN L[i].1 L[i].2)[j]? :=by
 induction L generalizing i with
 |nil=>grind
 |cons x L ih=>
  have hr:gh (x::L)=cN x.1 x.2++gh L:=by grind [gh]
  have hl:(cN x.1 x.2).length=19:=rfl;rw[hr];grind
def kj (w:World) (n:Nat) (l:List ae) (v:Value):Prop:=∃L:List (ae×Value),L.map (·.1)=l/\(∀x∈L,dm w n x.1.over x.2)/\w.ownsRow n 78 19 v L.length (gh L)
theorem sr {w w':World} {base size:Nat} {e:TypeId} {v:Value} {n:Nat} {xs:List Value} (h:w.ownsRow base e size v n xs) (hb:Below w.heap.size w w'):w'.ownsRow base e size v n xs:=by
 refine⟨h.1,?_⟩;rcases h.2 with hn|⟨g,cap,cur,hv,hbg,hg,rest⟩
 . grind
 . exact .inr ⟨g,cap,cur,hv,hbg,(hb.block g (Ab.1 hg).1).trans hg,rest⟩
theorem Qs {w:World} {bk:Nat} {K:List (aq×(Value×ae))} (hm:ay w bk bJ qZ K) {d:aq} {x:Value×ae} (hx:aB K d=some x):(Instr.lookup 102 (.map (some bk)) (bJ d) false).run Tryz.prog w= .ok x.1 w:=by
 rw[hm.lookup iR Tryz.underlying102 (z:=gT vm (.slice none 0 0)) (by kernel_rfl) d false,hx];rfl
theorem GK:∃i0 z by0,Tryz.prog.info? 78=some i0/\i0.zero=some z/\i0.size=19/\i0.bytes=by0/\z.cells.size=19/\by0<=1000:=by
 have h:((Tryz.prog.info? 78).bind fun i=>i.zero.map fun z=>(i.size,Nat.ble i.bytes 1000,z.cells.size))=some (19,true,19):=by kernel_rfl
 cases e:Tryz.prog.info? 78 with
 |none=>rw[e]at h;cases h
 | some i=>
  rw[e]at h
  cases ez:i.zero with
  |none=>grind
  |some z=>
   simp_all
theorem Zz (e:ae) (v:Value):Array.foldl (fun(cs:Array Value) (x:Value×Nat)=>cs.setIfInBounds x.2 x.1) #[.int .i64 0, .int .i64 0, .int .i64 0, .int .i64 0, .int .i64 0, .int .i64 0, .int .i64 0, .string ⟨#[]⟩, .string ⟨#[]⟩, .string ⟨#[]⟩, .string ⟨#[]⟩, .bool false, .bool false, .bool false, .bool false, .int .i64 0, .int .i64 0, .int .i64 0, .slice none 0 0] ((cN e v).toArray.zipIdx) 0 19=(cN e v).toArray:=by kernel_rfl
theorem Tryz.sorted {w:World} {n b bk ba bd bs bv:Nat} {G:bg} (h:cK w n b bk ba bd bs bv G) {l:List aq} {v:Value} (hd:cH w l v) (hl:l.length<=1000000) (f:aq->ae) (hf:∀d∈l,∃u,aB G.kept d=some (u,f d)) (hov:∀d∈l,(f d).over.length<=100000):
  Calls Tryz.prog 126 #[.pointer (some ⟨b,0,none⟩),v] w fun e w'=>∃v',e= .returned v'/\kj w' w.heap.size ((dy cg l).map f) v'/\Below w.heap.size w w':=by
 letI:Inhabited aF:=⟨⟨True,#[]⟩⟩
 have hsort:=Ox hd hl;go_enter Tryz.func126,Tryz.ntmps126
 go_wp2_with (go_at_call 172;refine hsort.mono ?_;rintro e w1 ⟨v1,rfl,hd1,hn1,hb1⟩;obtain⟨sa,sn,sc,rfl⟩:=hd1.one)
 have hsn:sn=(dy cg l).length:=by
  rcases hd1 with⟨h0,a,c,hh⟩|⟨_,_,_,_,_,_,hh,_⟩
  all_goals grind
 subst hsn;go_loopw [5,11] (fun v i wr=>∃(k:Nat) (L:List (ae×Value)),k<=(dy cg l).length/\i= .int .i64 k/\L.map (·.1)=((dy cg l).take k).map f/\(∀x∈L,dm wr w1.heap.size x.1.over x.2)/\wr.ownsRow w1.heap.size 78 19 v L.length (gh L)/\Below w1.heap.size w1 wr)
  (fun _ i _=>(dy cg l).length - (intOf i).toNat)
 case atStart=>exact⟨0,[],Au _,rfl,rfl,fun x hx=>absurd hx (by simp),World.ownsRow_nil _ _ _ _,Below.refl _ _⟩
 case round=>
  obtain⟨k,L,hk,rfl,hL,hLd,hrow,hbr1⟩:=hrel;have hbr:=hb1.trans (hbr1.mono hb1.size);have hsl:(dy cg l).length<=l.length:=by have:=xe (less:=cg) l [];grind [dy]
  have hLl:L.length=k:=by
    have:=Aj List.length hL;grind
  by_cases hlt:k<(dy cg l).length
  . obtain⟨d,hdk⟩:∃d,(dy cg l)[k]=d:=⟨_,rfl⟩;have hdl:d∈l:=by rw[<-qD (less:=cg),<-hdk];grind
    obtain⟨u,hu⟩:=hf d hdl;have hev0:ja w u (f d):=h.ev _ ((CS h.iC.nd).1 hu);rcases hd1 with⟨h0,_⟩|⟨ob,off,cap,arr,ty,fz,hh,hob,hcap,hlen,hcells⟩
    . rw[h0]at hlt;grind
    . simp only[Value.slice.injEq]at hh;obtain⟨rfl, -,rfl⟩:=hh;obtain⟨x0,x1,x2⟩:=hcells k hlt;rw[hdk]at x0 x1 x2;have hobr:=(hbr1.block ob (Ab.1 hob).1).trans hob;have cell:∀{j:Nat} {u:Value},arr[j]? =some u->wr.cell? ⟨ob,j,none⟩=some u:=fun hx=>by
       grind [World.cell?]
      have c0:=cell x0;have c1:=cell x1;have c2:=cell x2;obtain⟨W,hW⟩:∃W,wr.alloc (.cells #[.int .i64 d.dev, .int .i64 d.inc, .int .i64 d.seq] 70)=W:=⟨_,rfl⟩;have hbW:Below wr.heap.size wr W:=by rw[<-hW];exact(Below.refl _ _).alloc (Ad _) _
      have hrowW:W.drew.ownsRow w1.heap.size 78 19 u5 L.length (gh L):=by rw[<-hW];exact hrow.alloc _
      have d0:W.cell? ⟨wr.heap.size,0,none⟩=some (.int .i64 d.dev):=by rw[<-hW];simp
      have d1:W.cell? ⟨wr.heap.size,1,none⟩=some (.int .i64 d.inc):=by rw[<-hW];simp
      have d2:W.cell? ⟨wr.heap.size,2,none⟩=some (.int .i64 d.seq):=by rw[<-hW];simp
      have hB:Below w.heap.size w W.drew:=(hbr.trans (hbW.mono hbr.size)).drew;have hmb:=iI h.c0;have d3:W.cell? ⟨b,0,none⟩=some (.map (some bk)):=ep h.c0 (hB.block b hmb);have hmW:ay W.drew bk bJ qZ G.kept:=h.iC.same (hB.block _ (Go.Gm.ay.lt h.iC));have hlk:=Qs hmW hu;have hcl:=GZ (hev0.cells (dS hB)) (hov d hdl);rw[show bJ d= .agg #[.int .i64 d.dev, .int .i64 d.inc, .int .i64 d.seq]from rfl]at hlk;obtain⟨i0,z0,by0,hi,hz0,hz1,hz2,hz3,hz4⟩:=GK;have hWs:wr.heap.size<W.heap.size:=by rw[<-hW];simp
      have hL1:L.length+1<=1000001:=by omega
      have hbyt:(L.length+1)*by0<=140737488355328:=Ar (Nat.mul_le_mul hL1 hz4) (by decide);have hmax:L.length+1<=maxLen:=by grind [maxLen]
      clear hmW hev0 hcells cell hob hobr x0 x1 x2;simp only[]at hlk;go_wp2;go_region_held3 (fun w'=>w'.cell? ⟨b,0,none⟩=some (.map (some bk))/\w'.cell? ⟨wr.heap.size,0,none⟩=some (.int .i64 d.dev)/\w'.cell? ⟨wr.heap.size,1,none⟩=some (.int .i64 d.inc)/\w'.cell? ⟨wr.heap.size,2,none⟩=some (.int .i64 d.seq)) (simp[*])
       (first
        |(go_at_call 53;(refine hcl.mono ?_;rintro e' w6 ⟨u',rfl,⟨v',hu',hd6⟩,hb6⟩;have e3:=ep d3 (hb6.block _ (by(have:=hbr.size;show b<W.heap.size;omega)));have e0:=ep d0 (hb6.block _ hWs);have e1:=ep d1 (hb6.block _ hWs);have e2:=ep d2 (hb6.block _ hWs);have hone:∀u∈cN (f d) v',u.oneCell'=true:=zB (by(obtain⟨_,_,_,hh⟩:=hd6.one;rw[hh];rfl));obtain⟨cs,hcs⟩:∃cs:Array Value,(cN (f d) v').toArray=cs:=⟨_,rfl⟩;have hcz:cs.size=19:=(by(rw[<-hcs];rfl));have hu2:u'= .agg cs:=(by(rw[hu',<-hcs];rfl));clear hu';subst hu2;have hfo:=Zz (f d) v';have hra:(w6.alloc (.cells (cN (f d) v').toArray 78)).rangeAt w6.heap.size 0 (cN (f d) v'):=ug w6 (f d) v';rw[hcs]at hfo hra;have hnl:(cN (f d) v').length=1*19:=rfl;obtain⟨nw,hnw⟩:∃nw,cN (f d) v'=nw:=⟨_,rfl⟩;rw[hnw]at hone hcs hra hnl;obtain⟨W7,hW7⟩:∃W7,w6.alloc (.cells cs 78)=W7:=⟨_,rfl⟩;rw[hW7]at hra;have hnc:∀j u,nw[j]? =some u->W7.cell? ((⟨w6.heap.size,0,none⟩:Addr).add j)=some u:=(fun j u hj=>by(rw[Addr.add_mid];exact hra j u hj));have s6:=hb6.size;have s7:W7.heap.size=w6.heap.size+1:=(by(subst hW7;simp_all));have hb7:Below w6.heap.size w6 W7:=(by(rw[<-hW7];exact(Below.refl _ _).alloc (Ad _) _));have g3:=ep e3 (hb7.block _ (iI e3));have g0:=ep e0 (hb7.block _ (iI e0));have g1:=ep e1 (hb7.block _ (iI e0));have g2:=ep e2 (hb7.block _ (iI e0));have hrow7:=sr (sr hrowW hb6) hb7))
        |((refine QX rfl (.tmp 15) (.tmp 23) 25 rfl w1.heap.size 78 i0 z0 19 by0 Tryz.underlying25 hi hz0 hz1 hz2 hz3 (by decide) u5 L.length (gh L) rfl hrow7 ⟨w6.heap.size,0,none⟩ 1 1 nw rfl hnl hnc hone hmax hbyt (by(have:=hbr1.size;show w1.heap.size<=W7.heap.size;have h6:W.heap.size<=w6.heap.size:=s6;omega)) ?_;intro v8 w8 hrow8 hg8;have k3:=ep g3 (hg8.block _ (iI g3) (fun e=>by(have:=(hrow.lt b e.symm).1;have:=hb1.size;omega)));have hne8:some wr.heap.size≠u5.ownBlock:=(fun e=>by(have:=(hrow.lt _ e.symm).2;omega));have k0:=ep g0 (hg8.block _ (iI g0) hne8);have k1:=ep g1 (hg8.block _ (iI g0) hne8);have k2:=ep g2 (hg8.block _ (iI g0) hne8))))
      have hno:∀(b':Nat) (arr':Array Value),W7.heap[b']? =some (.cells arr' 70 (0,0))->w8.heap[b']? =W7.heap[b']? :=fun b' arr' hx=>by
       refine hg8.block b' (Ab.1 hx).1 fun e=>?_
       grind [ownsRow_ne_a]
      have hn8:dm w8 w1.heap.size (f d).over v':=(hd6.mono (by have:=hbr1.size;show w1.heap.size<=W.heap.size;omega)).bn fun b' arr' _ hx=>by
       have h7:=hb7.block b' (Ab.1 hx).1;grind
      have ho8:∀x∈L,dm w8 w1.heap.size x.1.over x.2:=fun x hx=>(hLd x hx).bn fun b' arr' _ hb'=>by
       have hlt':=(Ab.1 hb').1;have h7:W7.heap[b']? =wr.heap[b']? :=((hb7.block b' (by have h6:W.heap.size<=w6.heap.size:=s6;omega)).trans (hb6.block b' (show b'<W.heap.size by omega))).trans (hbW.block b' hlt');grind
      have hB8:Below w1.heap.size w1 w8:=by
       have h1:=hbr1.size;have h6:W.heap.size<=w6.heap.size:=s6;exact(((hbr1.trans (hbW.mono h1)).drew.trans (hb6.mono (show w1.heap.size<=W.heap.size by omega))).trans (hb7.mono (by omega))).grown hg8 (by omega) (fun k e=>(hrow.lt k e).1)
      go_wp2;go_roundw
      case rel=>
       refine⟨k+1,L++[(f d,v')],hlt,by go_num,?_,?_,?_,hB8⟩
       all_goals grind [List.take_succ,gh]
      grind [intOf]
  . have hkl:k=(dy cg l).length:=by omega
    subst hkl;rw[A8]at hL;go_wp2;go_ret;refine⟨_,rfl,⟨L,hL,fun x hx=>(hLd x hx).mono hb1.size,hrow.1,?_⟩,hbr⟩;rcases hrow.2 with hn|⟨g,cap,cur,hv,hbg,rest⟩
    . exact .inl hn
    . exact .inr ⟨g,cap,cur,hv,Ar hb1.size hbg,rest⟩
theorem kj.mono {w:World} {n m:Nat} {l:List ae} {v:Value} (h:kj w n l v) (hm:m<=n):kj w m l v:=by
 obtain⟨L,h1,h2,h3,h4⟩:=h;refine⟨L,h1,fun x hx=>(h2 x hx).mono hm,h3,?_⟩;rcases h4 with hn|⟨g,cap,cur,hv,hbg,rest⟩
 . exact .inl hn
 . exact .inr ⟨g,cap,cur,hv,Ar hm hbg,rest⟩
theorem QD {w:World} {n b bk ba bd bs bv:Nat} {G:bg} (h:cK w n b bk ba bd bs bv G) (k:aD) {j:Nat} {I:DL} (hj:aB G.alive k=some (j,I)) (f:aq->ae) (hI:I.length<=1000000)
  (hf:∀d∈I.map (·.1),∃u,aB G.kept d=some (u,f d)) (hov:∀d∈I.map (·.1),(f d).over.length<=100000):
  Calls Tryz.prog 78 #[.pointer (some ⟨b,0,none⟩),cZ k] w fun e w'=>∃v',e= .returned v'/\kj w' w.heap.size ((dy cg (I.map (·.1))).map f) v'/\Below w.heap.size w w':=by
 letI:Inhabited aF:=⟨⟨True,#[]⟩⟩
 obtain⟨i0,hi,hz0,hz1,hz2⟩:=GJ;have hmI:ay w j bJ cD I:=h.mi _ ((CS h.ma.nd).1 hj);obtain⟨W,hW⟩:∃W,w.alloc (.cells #[.string ⟨k.name.toArray⟩, .string ⟨k.domain.toArray⟩, .string ⟨k.path.toArray⟩] 57)=W:=⟨_,rfl⟩;have hbW:Below w.heap.size w W:=by rw[<-hW];exact(Below.refl _ _).alloc (Ad _) _
 have sW:W.heap.size=w.heap.size+1:=by subst hW;simp_all
 have d0:W.cell? ⟨w.heap.size,0,none⟩=some (.string ⟨k.name.toArray⟩):=by rw[<-hW];simp
 have d1:W.cell? ⟨w.heap.size,1,none⟩=some (.string ⟨k.domain.toArray⟩):=by rw[<-hW];simp
 have d2:W.cell? ⟨w.heap.size,2,none⟩=some (.string ⟨k.path.toArray⟩):=by rw[<-hW];simp
 have hB:Below w.heap.size w W.drew:=hbW.drew;have d3:W.cell? ⟨b,1,none⟩=some (.map (some ba)):=ep h.c1 (hB.block b (iI h.c1));have hmW:ay W.drew ba cZ o8 G.alive:=h.ma.same (hB.block _ (Go.Gm.ay.lt h.ma));have hlk:=jT hmW k;rw[hj,show cZ k= .agg #[.string ⟨k.name.toArray⟩, .string ⟨k.domain.toArray⟩, .string ⟨k.path.toArray⟩]from rfl,Bz]at hlk;have hmIW:ay W.drew j bJ cD I:=hmI.same (hB.block _ (Go.Gm.ay.lt hmI));obtain⟨W1,hrg,hit,hb1,hs1⟩:=hmIW.range Tryz.underlying104;rw[show W.drew.heap.size=W.heap.size from rfl]at hrg hit hs1;have hjl:=Go.Gm.ay.lt hmI;have hbl:=iI h.c1;have e3:=ep d3 (hb1.block b (show b<W.heap.size by omega));have e0:=ep d0 (hb1.block _ (show w.heap.size<W.heap.size by omega));have e1:=ep d1 (hb1.block _ (show w.heap.size<W.heap.size by omega));have e2:=ep d2 (hb1.block _ (show w.heap.size<W.heap.size by omega));have hB1:Below w.heap.size w W1:=hB.trans (hb1.mono (show w.heap.size<=W.heap.size by omega));rw[show cZ k= .agg #[.string ⟨k.name.toArray⟩, .string ⟨k.domain.toArray⟩, .string ⟨k.path.toArray⟩]from rfl];clear hmW hmIW;go_enter Tryz.func78,Tryz.ntmps78
 go_wp2;go_region_held3 (fun w'=>w'.cell? ⟨b,1,none⟩=some (.map (some ba))/\w'.cell? ⟨w.heap.size,0,none⟩=some (.string ⟨k.name.toArray⟩)/\w'.cell? ⟨w.heap.size,1,none⟩=some (.string ⟨k.domain.toArray⟩)/\w'.cell? ⟨w.heap.size,2,none⟩=some (.string ⟨k.path.toArray⟩)) (simp[*]) (fail)
 rw[sW]at hit hs1;clear hrg e0 e1 e2 e3 d0 d1 d2 d3 hlk;go_wp2;go_loopw [5] (fun v wr=>∃(ss left:DL),cC wr (w.heap.size+1) j bJ cD I ss left/\ss.length+left.length=I.length/\wr.ownsRow W1.heap.size 70 3 v ss.length (fB (ss.map (·.1)))/\Below w.heap.size w wr/\W1.heap.size<=wr.heap.size)
  (fun _ wr=>wr.rangeLeft j (w.heap.size+1))
 case atStart=>exact⟨[],I,hit,by simp,World.ownsRow_nil _ _ _ _,hB1,Ad _⟩
 case round=>
  obtain⟨ss,left,hrg,hcs,hrow,hbr,hbig⟩:=hrel;go_wp2_with (first
    |(at_next;refine Ig _ rfl _ rfl (w.heap.size+1) j rfl hrg ?_ ?_)
    |go_in)
  . intro hl0 hperm;have hpk:(ss.map (·.1)).Perm (I.map (·.1)):=hperm.map _;have hsl:(ss.map (·.1)).length<=1000000:=by rw[hpk.length_eq,A1];exact hI
    have hrow':wr.ownsRow W1.heap.size 70 3 u5 (ss.map (·.1)).length (fB (ss.map (·.1))):=by rw[A1];omega
    have hcall:=Tryz.sorted (h.below hbr) (UY hrow') hsl f (fun d hd=>hf d (hpk.mem_iff.1 hd)) (fun d hd=>hov d (hpk.mem_iff.1 hd));go_wp2_with (go_at_call 126;refine hcall.mono ?_;rintro e w2 ⟨v2,rfl,hev,hb2⟩)
    go_ret;have heq:dy cg (ss.map (·.1))=dy cg (I.map (·.1)):=uK (wG _) fun x=>by rw[qD];grind
    rw[heq]at hev;exact⟨_,rfl,hev.mono hbr.size,hbr.trans (hb2.mono hbr.size)⟩
  . intro d nn left' w2 hrg2 hlt hg2 hs2 hen;rw[show bJ d= .agg #[.int .i64 d.dev, .int .i64 d.inc, .int .i64 d.seq]from rfl]at hen⊢;have hr0:=hrg.isWalk;have hrow2:w2.ownsRow W1.heap.size 70 3 u5 ss.length (fB (ss.map (·.1))):=hrow.kept (row:=some (w.heap.size+1)) ⟨hg2.os,hg2.tape,hg2.output,hg2.size,fun i hi hne=>hg2.block i hi fun e=>hne (by rw[e])⟩ (by
     obtain⟨o,ho,hw⟩:=hr0;exact ownsRow_ne_a hrow ho (fun cur e=>by rw[e]at hw;cases hw))
    have hb2:Below w.heap.size w w2:=hbr.trans ⟨hg2.os,hg2.tape,hg2.output,hg2.size,fun i hi=>hg2.block i (AR hi hbr.size) (by omega)⟩;obtain⟨X,hX⟩:∃X,(w2.alloc (.cells #[.int .i64 d.dev, .int .i64 d.inc, .int .i64 d.seq] 70)).alloc (.cells #[.int .i64 d.dev, .int .i64 d.inc, .int .i64 d.seq] 70)=X:=⟨_,rfl⟩;have hrow3:X.ownsRow W1.heap.size 70 3 u5 ss.length (fB (ss.map (·.1))):=by rw[<-hX];exact(hrow2.alloc _).alloc _
    have hk3:KeepsWalks w2 X:=by rw[<-hX];exact(KeepsWalks.alloc _ _).trans (KeepsWalks.alloc _ _)
    have hb3:Below w.heap.size w X:=by rw[<-hX];exact(hb2.alloc hb2.size _).alloc (by have:=hb2.size;simp;omega) _
    have hs3:X.heap.size=wr.heap.size+2:=by rw[<-hX];simp;omega
    have hnc:∀i u,([.int .i64 d.dev, .int .i64 d.inc, .int .i64 d.seq]:List Value)[i]? =some u->X.cell? ((⟨wr.heap.size+1,0,none⟩:Addr).add i)=some u:=fun i u hi=>by
     rw[Addr.add_lit,<-hX,show wr.heap.size+1=(w2.alloc (.cells #[.int .i64 d.dev, .int .i64 d.inc, .int .i64 d.seq] 70)).heap.size from by rw[<-hs2];simp_all];match i with
     |0=>cases hi;simp
     |1=>cases hi;simp
     |2=>cases hi;simp
     |_+3=>cases hi
    have hone:∀u∈([.int .i64 d.dev, .int .i64 d.inc, .int .i64 d.seq]:List Value),u.oneCell'=true:=by simp[Value.oneCell']
    have hlen:ss.length+1<=I.length:=by omega
    have hmax:ss.length+1<=maxLen:=by grind [maxLen]
    go_wp2_with (at_builtin;go_loud (refine wpList_append_own _ rfl _ _ 34 rfl W1.heap.size 70 i0 _ 3 24 Tryz.underlying34 hi hz0 hz1 hz2 rfl (by decide) _ _ _ rfl hrow3 ⟨wr.heap.size+1,0,none⟩ 1 1 [.int .i64 d.dev, .int .i64 d.inc, .int .i64 d.seq] rfl rfl hnc hone hmax (by omega) (by omega) ?_;intro v3 w3 hown hg3 hnil))
    have hrg3:=(hrg2.jC hk3).jC (KeepsWalks.of_grownBy hg3 (ownsRow_not_walk_a hrow3));have hs4:=hg3.size;go_roundw
    case rel=>exact⟨ss++[(d,nn)],left',hrg3,by grind,by rw[Br,AW,D6,Ir,Bu];omega,hb3.grown hg3 hb3.size (fun k e=>Ar hB1.size (hrow3.lt k e).1),by omega⟩
    case measure=>rw[hrg3.left_eq,hrg.left_eq];omega
theorem QE {w:World} {n b bk ba bd bs bv:Nat} {G:bg} (h:cK w n b bk ba bd bs bv G) (k:aD) (hj:aB G.alive k=none):
  Calls Tryz.prog 78 #[.pointer (some ⟨b,0,none⟩),cZ k] w fun e w'=>∃v',e= .returned v'/\kj w' w.heap.size [] v'/\Below w.heap.size w w':=by
 letI:Inhabited aF:=⟨⟨True,#[]⟩⟩
 obtain⟨W,hW⟩:∃W,w.alloc (.cells #[.string ⟨k.name.toArray⟩, .string ⟨k.domain.toArray⟩, .string ⟨k.path.toArray⟩] 57)=W:=⟨_,rfl⟩;have hbW:Below w.heap.size w W:=by rw[<-hW];exact(Below.refl _ _).alloc (Ad _) _
 have sW:W.heap.size=w.heap.size+1:=by subst hW;simp_all
 have d0:W.cell? ⟨w.heap.size,0,none⟩=some (.string ⟨k.name.toArray⟩):=by rw[<-hW];simp
 have d1:W.cell? ⟨w.heap.size,1,none⟩=some (.string ⟨k.domain.toArray⟩):=by rw[<-hW];simp
 have d2:W.cell? ⟨w.heap.size,2,none⟩=some (.string ⟨k.path.toArray⟩):=by rw[<-hW];simp
 have hB:Below w.heap.size w W.drew:=hbW.drew;have d3:W.cell? ⟨b,1,none⟩=some (.map (some ba)):=ep h.c1 (hB.block b (iI h.c1));have hmW:ay W.drew ba cZ o8 G.alive:=h.ma.same (hB.block _ (Go.Gm.ay.lt h.ma));have hlk:=jT hmW k;rw[hj,show cZ k= .agg #[.string ⟨k.name.toArray⟩, .string ⟨k.domain.toArray⟩, .string ⟨k.path.toArray⟩]from rfl,BP]at hlk;have hrg:=run_range_nilMap (P:=Tryz.prog) W.drew 104 _ _ Tryz.underlying104;have hbl:=iI h.c1;obtain⟨W1,hW1⟩:∃W1,W.drew.alloc (.mapIter none 0 #[] 0)=W1:=⟨_,rfl⟩;have hb1:Below W.heap.size W.drew W1:=by rw[<-hW1];exact(Below.refl W.drew.heap.size W.drew).alloc (Ad _) _
 have hnx:∀ty,(Instr.next (.pointer (some ⟨w.heap.size+1,0,none⟩)) false ty).run Tryz.prog W1= .ok (.tuple #[.bool false]) W1:=fun ty=>by
  have:=run_next_nilMap (P:=Tryz.prog) W.drew ty 0 0 #[];rw[show W.drew.heap.size=w.heap.size+1 from sW,hW1]at this;omega
 rw[hW1]at hrg;have e3:=ep d3 (hb1.block b (show b<W.heap.size by omega));have e0:=ep d0 (hb1.block _ (show w.heap.size<W.heap.size by omega));have e1:=ep d1 (hb1.block _ (show w.heap.size<W.heap.size by omega));have e2:=ep d2 (hb1.block _ (show w.heap.size<W.heap.size by omega));have hB1:Below w.heap.size w W1:=hB.trans (hb1.mono (show w.heap.size<=W.heap.size by omega));have hcall:=Tryz.sorted (h.below hB1) (l:=[]) (v:= .slice none 0 0) (.inl ⟨rfl,_,_,rfl⟩) (Au _) (fun _=>default) (fun d hd=>by cases hd) (fun d hd=>by cases hd);rw[show cZ k= .agg #[.string ⟨k.name.toArray⟩, .string ⟨k.domain.toArray⟩, .string ⟨k.path.toArray⟩]from rfl];clear hmW;go_enter Tryz.func78,Tryz.ntmps78
 go_wp2;go_region_held3 (fun w'=>w'.cell? ⟨b,1,none⟩=some (.map (some ba))/\w'.cell? ⟨w.heap.size,0,none⟩=some (.string ⟨k.name.toArray⟩)/\w'.cell? ⟨w.heap.size,1,none⟩=some (.string ⟨k.domain.toArray⟩)/\w'.cell? ⟨w.heap.size,2,none⟩=some (.string ⟨k.path.toArray⟩)) (simp[*]) (fail)
 clear hrg e0 e1 e2 e3 d0 d1 d2 d3 hlk;go_wp2;go_loopw [5] (fun v wr=>v= .slice none 0 0/\wr=W1) (fun _ _=>0)
 case atStart=>grind
 case round=>
  obtain⟨rfl,rfl⟩:=hrel;go_wp2_with (go_at_call 126;go_loud (refine hcall.mono ?_;rintro e w2 ⟨v2,rfl,hev,hb2⟩))
  go_ret;exact⟨_,rfl,hev.mono hB1.size,hB1.trans (hb2.mono hB1.size)⟩
theorem Ct {α:Type} [DecidableEq α]:∀{l m:List α},l.Nodup->(∀x∈l,x∈m)->l.length<=m.length
 |[],_,_,_=>Au _
 |x::l,m,hn,hs=>by
  have hx:=hs x Aq;obtain⟨hxl,hn'⟩:=Du.1 hn;have:=Ct (l:=l) (m:=m.erase x) hn' fun y hy=>(List.mem_erase_of_ne (fun e=>hxl (by rw[<-e];exact hy))).2 (hs y (AS _ hy))
  rw[List.length_erase_of_mem hx]at this;have:=List.length_pos_of_mem hx;rw[Bc];omega
theorem Wb [Inhabited aF] {G:bg} {m:aN} (g:bS G m) {k:aD} {x:Nat×DL} (hx:aB G.alive k=some x) (hn:(x.2.map (·.1)).Nodup):x.2.length<=m.kept.length/\ ∀d∈x.2.map (·.1),∃e∈aX m k,e.dot=d:=by
 have hm:∀d∈x.2.map (·.1),∃e∈aX m k,e.dot=d:=fun d hd=>(g.al k d).1 ⟨x,hx,by
  grind [aB]⟩
 refine⟨?_,hm⟩;have h1:(x.2.map (·.1)).length<=((aX m k).map (·.dot)).length:=Ct hn fun d hd=>by
  grind
 rw[A1,A1]at h1;exact Ar h1 (Ar (A2 _ _) (A2 _ _))
theorem Tryz.key {w:World} {n b bk ba bd bs bv:Nat} {G:bg} {m:aN} (h:cK w n b bk ba bd bs bv G) (g:bS G m) (ok:lK m) (hov:∀e∈m.kept,e.over.length<=100000) (k:aD):
  Calls Tryz.prog 78 #[.pointer (some ⟨b,0,none⟩),cZ k] w fun e w'=>∃v',e= .returned v'/\kj w' w.heap.size (aX m k) v'/\Below w.heap.size w w':=by
 letI:Inhabited aF:=⟨⟨True,#[]⟩⟩
 cases hj:aB G.alive k with
 | none=>
  have he:aX m k=[]:=by
   grind [wW]
  rw[he];grind [QE]
 | some x=>
  obtain⟨j,I⟩:=x;have hnd:(I.map (·.1)).Nodup:=(h.mi _ ((CS h.ma.nd).1 hj)).nd;obtain⟨hlen,hmem⟩:=Wb g hj hnd;have hfe:∀e∈aX m k,(((aB G.kept e.dot).map (·.2)).getD kA)=e:=fun e he=>by
   grind [KW]
  have hdots:=Wc g (k:=k) (l:=I.map (·.1)) fun d=>by
   rw[g.al];exact⟨fun hd=>hmem d hd,fun⟨e,he,hed⟩=>by
    obtain⟨x,hx,hs⟩:=(g.al k d).2 ⟨e,he,hed⟩;rw[hj]at hx;grind [cR]⟩
  have hk:=QD h k hj (fun d=>((aB G.kept d).map (·.2)).getD kA) (by have:=ok.kept;have h2:I.length<=m.kept.length:=hlen;omega) (fun d hd=>by
    grind [KW]) (fun d hd=>by
    obtain⟨e,he,rfl⟩:=hmem d hd;show(((aB G.kept e.dot).map (·.2)).getD kA).over.length<=100000
    rw[hfe e he];exact hov e (As.1 (As.1 he).1).1)
  rw[hdots,Dd]at hk;rw[show(aX m k).map ((fun d=>((aB G.kept d).map (·.2)).getD kA) ∘ (·.dot))=aX m k by
   simp_all[By]]at hk
  exact hk
end Go.Proofs
namespace Go.Proofs
open Go Go.Am Go.RowKit Go.Sy
section
variable [Inhabited aF]
noncomputable def NA (f:FuncId):Option aK:=F5 f
theorem Wv:∀g C,NA g=some C->CO g C:=KD
noncomputable def NB (f:FuncId):Option aK:=NA f
theorem Ww:∀g C,NB g=some C->CO g C:=Wv
noncomputable def NC (f:FuncId):Option aK:=bif Nat.beq f F9 then some MS else NB f
theorem Wx:∀g C,NC g=some C->CO g C:=bM Mn Ww
end
end Go.Proofs
namespace Go.Proofs
open Go Go.Am Go.RowKit Go.Sy Go.Gm Go.Maps Go.Sort Go.Shelf
section
theorem YP {w:World} {n:Nat} {l:List aq} {v:Value} (h:dm w n l v):Up w n (cL l) v:=by
 unfold cL;rcases h with⟨rfl,a,c,rfl⟩|⟨b,cap,arr,rfl,hp,hb,hc,hl,hi⟩
 . exact .bP rfl a c
 . refine .bh b 0 cap arr 70 (0,0) 3 (fun i j=>(arr[i*3+j]?).getD (.bool false)) hp hb (by decide) (by omega) (fun _ _ _=>rfl) hc (fun i x j v hx hv=>?_) (fun i x j v hx hv=>?_) (fun i x j v hx hv=>?_)
   all_goals
    have hil:i<l.length:=(Ae.1 hx).1;have hxe:l[i]=x:=(Ae.1 hx).2;obtain⟨e0,e1,e2⟩:=hi i hil;rw[hxe]at e0 e1 e2;have hj:j<3:=(Ae.1 hv).1;match j,hj with
    |0,_=>cases hv;first|rfl|exact(by rw[Ax,Bx,e0];rfl)|(simp only[Bx,e0,Bi];exact .int _ _)
    |1,_=>cases hv;first|rfl|exact(by rw[Ax,e1];rfl)|(simp only[e1,Bi];exact .int _ _)
    |2,_=>cases hv;first|rfl|exact(by rw[Ax,e2];rfl)|(simp only[e2,Bi];exact .int _ _)
theorem qzT {w:World} {n:Nat} {l:List ae} {v:Value} (h:kj w n l v):Up w n (dG l) v:=by
 unfold dG;obtain⟨L,rfl,hd,hlen,hr⟩:=h;rcases hr with⟨rfl,h0⟩|⟨g,cap,cur,rfl,hp,hb,hc,hm,hsz,htk⟩
 . exact .fu (by grind)
 . rw[show L.length=(L.map (·.1)).length by simp];have cell:∀i (hi:i<L.length) j,j<19->cur[i*19+j]? =(cN L[i].1 L[i].2)[j]? :=fun i hi j hj=>by
     rw[<-LA L i hi j hj,<-htk,A4,Al (by omega),A6]
   refine .bh g 0 cap cur 78 (0,0) 19 (fun i j=>(cur[i*19+j]?).getD (.bool false)) hp hb (by decide) (by grind) (fun _ _ _=>rfl) (by grind) (fun i x j v hx hv=>?_) (fun i x j v hx hv=>?_) (fun i x j v hx hv=>?_)
   . have hj:j<19:=(Ae.1 hv).1;match j,hj with
     |0,_|1,_|2,_|3,_|4,_|5,_|6,_|7,_|8,_|9,_|10,_|11,_|12,_|13,_|14,_|15,_|16,_|17,_|18,_=>cases hv;rfl
   all_goals
     have hil:i<L.length:=by simpa using(Ae.1 hx).1
     have hxe:L[i].1=x:=by simpa using(Ae.1 hx).2
     have hdi:=hd _ (AN hil);rw[hxe]at hdi;have hj:j<19:=(Ae.1 hv).1;have hcl:=cell i hil j hj;rw[hxe]at hcl
   . rw[Ax,hcl,Ag (show j<(cN x L[i].2).length from hj)];rfl
   . show Up w n v ((cur[i*19+j]?).getD _)
     rw[hcl];match j,hj with
     |0,_|1,_|2,_|3,_|4,_|5,_|6,_|15,_|16,_|17,_=>cases hv;exact .int _ _
     |7,_|8,_|9,_|10,_=>cases hv;exact .str _
     |11,_|12,_|13,_|14,_=>cases hv;exact .bool _
     |18,_=>cases hv;exact YP hdi
variable [Inhabited aF]
structure cJ (b:Nat) (m:aN):Prop where
 ok:lK m
 over:∀e∈m.kept,e.over.length<=100000
 at_:ZF fun w=>∃n bk ba bd bs bv G,cK w n b bk ba bd bs bv G/\bS G m
def NN:aK:={Y:=Nat×aN×aD,pre:=fun y=>cJ y.1 y.2.1,args:=fun y=>[.wp ⟨y.1,0,none⟩, .agg y.2.2.enc],res:=fun y=>dG (aX y.2.1 y.2.2)}
theorem rd_key {w:World} {p:Nat->Prop} {g:Bool} {k:aD} {v:Value} (h:Rd w p g (.agg k.enc) v):v=cZ k:=by
 cases h with
 | @agg cs vs h1 h2=>
  obtain⟨l⟩:=vs;match l,h1 with
  |[x,y,z],_=>
   have e1:=nO (h2 0 _ _ rfl rfl);have e2:=nO (h2 1 _ _ rfl rfl);have e3:=nO (h2 2 _ _ rfl rfl);subst e1 e2 e3;rfl
theorem qzu (hdr:¬(default:aF).dr):CO Hm NN:=jS bu.ok (by
 rintro⟨b,m,k⟩ hpre w args hold ⟨h1,h2⟩;match args,h1 with
 |[v,u],_=>
 have e1:=Gj (h2 0 _ _ rfl rfl);have e2:=rd_key (h2 1 _ _ rfl rfl);subst e1 e2;obtain⟨n,bk,ba,bd,bs,bv,G,hO,hG⟩:=hpre.at_ w hold;refine(Tryz.key hO hG hpre.ok hpre.over k).mono ?_;rintro e w' ⟨v',rfl,hv,hb⟩;exact⟨_,rfl, .inr (qzT hv),hb,fun h=>(hdr h).elim⟩)
end
section
variable [Inhabited aF]
noncomputable def FP (f:FuncId):Option aK:=bif Nat.beq f Hm then some NN else NC f
theorem Lk (hdr:¬(default:aF).dr):∀f C,FP f=some C->CO f C:=bM (qzu hdr) Wx
def K5:aK:={Y:=Nat×aN×aD,pre:=fun y=>cJ y.1 y.2.1,args:=fun y=>[.wp ⟨y.1,0,none⟩, .agg y.2.2.enc],res:=fun y=> .bA [.agg (ec y.2.1 y.2.2).1.enc, .bool (ec y.2.1 y.2.2).2]}
def Vv (y:Nat×aN×aD):aL:=let l:=aX y.2.1 y.2.2;{α:=Nat,ok:=fun i=>i+1<=l.length,μ:=fun i=>l.length - i,bn:=[4,7],bc:=fun i=>[(21,dG (l.drop 1)),(22,i64 (Int.ofNat (l.drop 1).length)),(23,i64 i)],bV:=fun i=>[(2, .cells ((fq (l.take (i+1))).getD kA).enc H6)]}
theorem Kf (hdr:¬(default:aF).dr):CO rz K5:=bR (cfg:=fun y=>cm FP (cT rz 6 (Vv y))) bu (fun _=>rfl) (fun _=>Lk hdr) (n:=600) (by
 rintro⟨b,m,k⟩ (hm:cJ b m);have hkl:=Fg hm.ok k;refine⟨(b,m,k),?_⟩
 repeat first|refine⟨rfl,?_⟩|refine⟨trivial,?_⟩
 refine⟨hm,?_⟩
 (conv=>whnf)
 refine aG (fun h0=>?_) fun h0=>?_
 . have he:aX m k=[]:=by
     have h0:(Int.ofNat (aX m k).length==0)=true:=h0;simp_all
   have hw:ec m k=(kA,false):=by unfold ec;rw[he];rfl
   have hw':ec (b,m,k).2.1 (b,m,k).2.2=(kA,false):=hw
   repeat' (first|exact trivial|(with_reducible exact rfl)|((conv=>whnf);first|(apply aG<;>intro)|apply And.intro))
   all_goals (rw[hw'];try rfl)
 . have hp:0<(aX m k).length:=by
     have h0:(Int.ofNat (aX m k).length==0)=false:=h0;grind
   (conv=>whnf)
   refine az.2 ⟨_,eA hp,?_⟩;refine⟨fun _=>rfl,ah.2 ⟨by rw[AF];exact hp,?_⟩⟩;refine⟨⟨(0:Nat),hp,?_⟩,?_⟩
   . have hw0:(fq ((aX m k).take (0+1))).getD kA=(aX m k)[0]:=by rw[EU hp];rfl
     have hw0':(fq ((aX (b,m,k).2.1 (b,m,k).2.2).take (0+1))).getD kA=(aX m k)[0]:=hw0
     repeat' (first|exact trivial|(with_reducible exact rfl)|((conv=>whnf);first|(apply aG<;>intro)|apply And.intro))
     all_goals first|exact rfl|(rw[hw0'];exact rfl)|((conv=>whnf);exact rfl)
   intro (x:Nat) hx;have hx:x+1<=(aX m k).length:=hx
   (conv=>whnf)
   refine aG (fun hlt=>?_) fun hge=>?_
   . have hlt':x<((aX m k).drop 1).length:=cP hlt;have hx1:x+1<(aX m k).length:=by rw[BM]at hlt';omega
     have hel:((aX m k).drop 1)[x]=(aX m k)[x+1]:=by rw[BR];grind
     have hn:=EU hx1;obtain⟨y,hy⟩:=E8 (Nat.succ_pos x) hx;have hgd:(fq ((aX m k).take (x+1))).getD kA=y:=by rw[hy];rfl
     rw[hy]at hn;have mu:(aX m k).length - (x+1)<(aX m k).length - x:=by omega
     (conv=>whnf)
     refine az.2 ⟨_,eA hlt',?_⟩;refine⟨(((aX m k).drop 1)[x].bL,((fq ((aX m k).take (x+1))).getD kA).bL),?_⟩
     repeat first|refine⟨rfl,?_⟩|refine⟨trivial,?_⟩
     (conv=>whnf)
     refine ai.2 ⟨fun h1=> ?gc,fun h1=> ?gd⟩
     case' gc=>
      have h1:oQ (aX m k)[x+1].bL y.bL=false:=by
       have h1:(!oQ ((aX m k).drop 1)[x].bL ((fq ((aX m k).take (x+1))).getD kA).bL)=true:=h1;rw[hgd,hel]at h1;grind
      have hw:(fq ((aX m k).take (x+1+1))).getD kA=((aX m k).drop 1)[x]:=by rw[hn,hel];grind
     case' gd=>
      have h1:oQ (aX m k)[x+1].bL y.bL=true:=by
       have h1:(!oQ ((aX m k).drop 1)[x].bL ((fq ((aX m k).take (x+1))).getD kA).bL)=false:=h1;rw[hgd,hel]at h1;grind
      have hw:(fq ((aX m k).take (x+1+1))).getD kA=(fq ((aX m k).take (x+1))).getD kA:=by rw[hn,hgd];grind
     all_goals
      (conv=>whnf)
      refine ah.2 ⟨cW x (by omega),?_⟩;refine⟨(x+1:Nat),hx1,mu,?_⟩
      repeat' (first|exact trivial|(with_reducible exact rfl)|((conv=>whnf);first|(apply aG<;>intro)|apply And.intro))
      all_goals first|exact rfl|(rw[hw];exact rfl)
   . have hge':((aX m k).drop 1).length<=x:=jz hge;have e:(aX m k).take (x+1)=aX m k:=Ay (by rw[BM]at hge';omega);have h2:(fq (aX m k)).isSome=true:=by
      grind [E8]
     repeat' (first|exact trivial|(with_reducible exact rfl)|((conv=>whnf);first|(apply aG<;>intro)|apply And.intro))
     all_goals first|exact rfl|exact h2.symm|(rw[e];done)|(rw[e];exact rfl))
end
def kS:List aD->List Value
 |[]=>[]
 |k::l=>cw k.name::cw k.domain::cw k.path::kS l
theorem Rj (l:List aD) (x:aD):kS (l++[x])=kS l++[cw x.name,cw x.domain,cw x.path]:=by
 induction l with
 |nil=>rfl
 |cons k l ih=>grind [kS]
theorem zD:∀(l:List aD) (i:Nat) (h:i<l.length),(kS l)[i*3]? =some (cw l[i].name)/\(kS l)[i*3+1]? =some (cw l[i].domain)/\(kS l)[i*3+2]? =some (cw l[i].path)
 |[],i,h=>absurd h (A3 _)
 |k::l,0,_=>⟨rfl,rfl,rfl⟩
 |k::l,i+1,h=>by
  obtain⟨e0,e1,e2⟩:=zD l i (by grind);rw[show(i+1)*3=i*3+3 by omega];exact⟨e0,by rw[show i*3+3+1=(i*3+1)+3 by omega];exact e1,by rw[show i*3+3+2=(i*3+2)+3 by omega];exact e2⟩
theorem Kq (l:List aD) {j:Nat} (hj:j<l.length*3):(kS l)[j]? =some ((kf l.toArray[j / 3]!)[j % 3]!):=by
 have hi:j / 3<l.length:=by omega
 obtain⟨e0,e1,e2⟩:=zD l (j / 3) hi;have hg:l.toArray[j / 3]! =l[j / 3]:=by rw[BF _ _ (by omega)];simp
 rw[hg];rcases(by omega:j=j / 3*3\/j=j / 3*3+1\/j=j / 3*3+2)with e|e|e
 . have hm:j % 3=0:=by omega
   rw[hm];conv=>lhs;rw[e]
   exact e0
 . have hm:j % 3=1:=by omega
   rw[hm];conv=>lhs;rw[e]
   exact e1
 . have hm:j % 3=2:=by omega
   rw[hm];conv=>lhs;rw[e]
   exact e2
theorem LU {w:World} {g:Nat} {cur:Array Value} {l:List aD} (hg:w.heap[g]? =some (.cells cur 57 (0,0))) (h4:cur.toList.take (l.length*3)=kS l):HoldsK kf 3 w g 0 l.toArray:=by
 intro j hj;have hj':j<l.length*3:=by simp_all
 have h2:=Aj (fun l=>l[j]?) h4;simp only[A4,Al hj',A6]at h2;rw[Kq l hj']at h2;grind [World.cell?,get_flatK,World.frozen?]
def gI (w:World) (g:Nat) (l:List aD):Prop:=∀i (h:i<l.length),w.cell? ⟨g,i*3,none⟩=some (cw l[i].name)/\w.cell? ⟨g,i*3+1,none⟩=some (cw l[i].domain)/\w.cell? ⟨g,i*3+2,none⟩=some (cw l[i].path)
theorem Ya {w:World} {g:Nat} {l:List aD} (h:HoldsK kf 3 w g 0 l.toArray):gI w g l:=by
 have hcell:∀j,j<l.length*3->w.cell? ⟨g,j,none⟩=(kS l)[j]? :=fun j hj=>by
  have:=(h j (by simp_all)).1;rw[Ax]at this;rw[this,Kq l hj,get_flatK kf 3 l.toArray j (by omega)];rfl
 intro i hi;grind [zD]
theorem gI.below {w w':World} {g:Nat} {l:List aD} (h:gI w g l) (hb:w'.heap[g]? =w.heap[g]?):gI w' g l:=fun i hi=>by
 obtain⟨e0,e1,e2⟩:=h i hi;grind [ep]
theorem Tz {l:List aD} (hn:l.Nodup) {d':Array aD} (hp:PermIn 0 l.toArray.size l.toArray d') (hs:SortedIn (ltOf nL) 0 l.toArray.size d'):d'.toList.Pairwise (fun x y=>fj x y=true)/\(∀x,x∈d'.toList↔x∈l)/\d'.size=l.length:=by
 obtain⟨h1,_,h3⟩:=hp;have hsz:d'.size=l.length:=by omega
 have hperm:d'.toList.Perm l:=by
  rw[show d'.extract 0 l.toArray.size=d' by rw[<-h1];simp]at h3;grind
 have hnd:d'.toList.Nodup:=hperm.nodup_iff.2 hn;refine⟨?_,fun x=>hperm.mem_iff,hsz⟩;rw[AK];intro i j hi hj hij;simp only[Array.length_toList]at hi hj;have:=hs i j (Au _) hij (by omega);rw[BF d' j hj,BF d' i hi,xk]at this;have hne:d'[i]≠d'[j]:=by
  have:=AK.1 hnd i j (by omega) (by omega) hij;grind
 grind [sB]
theorem RU (w:World) (g off n:Nat) (d:Array aD) (os:Array Obj) {B:Nat} (hg:B<=g) (hB:B<=w.heap.size):Below B w (sortWorldK kf 3 w g off n d os):=by
 refine⟨rfl,rfl,rfl,size_sortWorldK_c kf 3 w g off n d os,fun k hk=>?_⟩;grind [sortWorldK,grow,putRowK,putRow,mapBlock,Sort.ahead]
theorem Ol {w:World} {base:Nat} {v:Value} {l:List aD} (hn:l.Nodup) (h:w.ownsRow base 57 3 v l.length (kS l)) (hl:l.length<=1000000) (hbase:base<=w.heap.size):
   Calls Tryz.prog 119 #[v, .func (.func 120) #[] #[]] w fun e w'=>e= .returned (.tuple #[])/\Below base w w'/\ ∃ks:List aD,ks.Pairwise (fun x y=>fj x y=true)/\(∀x,x∈ks↔x∈l)/\ks.length=l.length/\(ks=[]\/ ∃g cap,v= .slice (some ⟨g,0,none⟩) l.length cap/\base<=g/\g<w'.heap.size/\gI w' g ks):=by
 rcases h.2 with⟨rfl,h0⟩|⟨g,cap,cur,rfl,hbg,hg,h1,h2,h3,h4⟩
 . have hl0:l=[]:=AP.1 h0;subst hl0;refine(PB w).mono ?_;rintro e w' ⟨rfl,hb⟩;exact⟨rfl,hb.mono hbase,[],List.Pairwise.nil,fun _=>Iff.rfl,rfl, .inl rfl⟩
 . have hgl:=(Ab.1 hg).1;have hs:=PX g 0 cap l.toArray w (LU hg h4) hgl (by grind);rw[show l.toArray.size=l.length by simp]at hs;refine hs.mono ?_;rintro e w' ⟨rfl,d',n,os,hp,hso,rfl⟩;obtain⟨hd,hmem,hsz⟩:=Tz hn (d':=d') (by omega) (by omega);have hH:=holdsK_sortWorldK_c kf 3 w g 0 l.toArray d' n os (LU hg h4) hgl (by omega);have hb:=RU w g 0 n d' os hbg hbase;exact⟨rfl,hb,d'.toList,hd,hmem,by omega, .inr ⟨g,cap,rfl,hbg,AR hgl hb.size,Ya (by omega)⟩⟩
def eV (w:World) (p:Nat->Prop) (l:List aq) (v:Value):Prop:=(l=[]/\ ∃a c,v= .slice a 0 c)\/ ∃b off cap arr e fz,v= .slice (some ⟨b,off,none⟩) l.length cap/\p b/\w.heap[b]? =some (.cells arr e fz)/\l.length<=cap/\off+l.length*3<=arr.size/\
 ∀i (h:i<l.length),arr[off+i*3]? =some (.int .i64 l[i].dev)/\arr[off+i*3+1]? =some (.int .i64 l[i].inc)/\arr[off+i*3+2]? =some (.int .i64 l[i].seq)
theorem eV.one {w:World} {p:Nat->Prop} {l:List aq} {v:Value} (h:eV w p l v):∃a n c,v= .slice a n c:=by
 rcases h with⟨_,a,c,rfl⟩|⟨_,_,_,_,_,_,rfl,_⟩<;>exact⟨_,_,_,rfl⟩
theorem eV.bn {w w':World} {p q:Nat->Prop} {l:List aq} {v:Value} (h:eV w p l v) (hs:∀b,p b->b<w.heap.size->q b/\w'.heap[b]? =w.heap[b]?):eV w' q l v:=by
 rcases h with h|⟨b,off,cap,arr,e,fz,rfl,hp,hb,hr⟩
 . exact .inl h
 . obtain⟨h1,h2⟩:=hs b hp (Ab.1 hb).1;exact .inr ⟨b,off,cap,arr,e,fz,rfl,h1,h2.trans hb,hr⟩
theorem WA [Inhabited aF] {w:World} {p:Nat->Prop} {g:Bool} {l:List aq} {v:Value} (h:Rd w p g (cL l) v):eV w p l v:=by
 unfold cL at h
 cases h with
 |fu h0=>exact .inl ⟨AP.1 h0,_,_,rfl⟩
 |bP h h0 a c=>exact .inl ⟨AP.1 h0,_,_,rfl⟩
 |bh b off cap arr e fz sz u hp hb hs hl hn hc h1 h2=>
  by_cases h0:l=[]
  . subst h0;exact .inl ⟨rfl,_,_,rfl⟩
  . have hsz:sz=3:=by
     obtain⟨x,l',rfl⟩:=B9 h0;exact(hn 0 x rfl).symm
    subst hsz;refine .inr ⟨b,off,cap,arr,e,fz,rfl,hp,hb,hc,hl,fun i hi=>?_⟩;have hx:l[i]? =some l[i]:=Ag hi;have e0:=h1 i _ 0 _ hx rfl;have e1:=h1 i _ 1 _ hx rfl;have e2:=h1 i _ 2 _ hx rfl;rw[gZ (h2 i _ 0 _ hx rfl)]at e0;rw[gZ (h2 i _ 1 _ hx rfl)]at e1;rw[gZ (h2 i _ 2 _ hx rfl)]at e2;grind
def y7 (w:World) (p:Nat->Prop) (u:Value) (e:ae):Prop:=∃v,u=gT e v/\eV w p e.over v
theorem Zv [Inhabited aF] {w:World} {p:Nat->Prop} {g:Bool} {e:ae} {u:Value} (h:Rd w p g (.agg e.enc) u):y7 w p u e:=by
 cases h with
 | @agg cs vs h1 h2=>
  obtain⟨l⟩:=vs;have hlen:l.length=19:=h1.symm;match l,hlen with
  |[a0,a1,a2,a3,a4,a5,a6,a7,a8,a9,a10,a11,a12,a13,a14,a15,a16,a17,a18],_=>
   have e0:=gZ (h2 0 _ _ rfl rfl);have e1:=gZ (h2 1 _ _ rfl rfl);have e2:=gZ (h2 2 _ _ rfl rfl);have e3:=gZ (h2 3 _ _ rfl rfl);have e4:=gZ (h2 4 _ _ rfl rfl);have e5:=gZ (h2 5 _ _ rfl rfl);have e6:=gZ (h2 6 _ _ rfl rfl);have e7:=nO (h2 7 _ _ rfl rfl);have e8:=nO (h2 8 _ _ rfl rfl);have e9:=nO (h2 9 _ _ rfl rfl);have e10:=nO (h2 10 _ _ rfl rfl);have e11:=qK (h2 11 _ _ rfl rfl);have e12:=qK (h2 12 _ _ rfl rfl);have e13:=qK (h2 13 _ _ rfl rfl);have e14:=qK (h2 14 _ _ rfl rfl);have e15:=gZ (h2 15 _ _ rfl rfl);have e16:=gZ (h2 16 _ _ rfl rfl);have e17:=gZ (h2 17 _ _ rfl rfl);have e18:=WA (h2 18 _ _ rfl rfl);subst e0 e1 e2 e3 e4 e5 e6 e7 e8 e9 e10 e11 e12 e13 e14 e15 e16 e17;exact⟨a18,rfl,e18⟩
theorem U2 [Inhabited aF] {w:World} {p:Nat->Prop} {g:Bool} {e:ae} {b:Bool} {v:Value} (h:Rd w p g (.bA [.agg e.enc, .bool b]) v):∃u,v= .tuple #[u, .bool b]/\y7 w p u e:=by
 cases h with
 | @bA cs vs h1 h2=>
  obtain⟨l⟩:=vs;match l,h1 with
  |[x,y],_=>
   have e2:=qK (h2 1 _ _ rfl rfl);subst e2;exact⟨x,rfl,Zv (h2 0 _ _ rfl rfl)⟩
theorem Tl {wr W8 w9:World} {base sz n m lo:Nat} {ty:TypeId} {v v9:Value} {xs:List Value} (hrow:wr.ownsRow base ty sz v n xs) (h8:Below wr.heap.size wr W8) (hg:W8.grownBy w9 v.ownBlock) (hat:v9.ownBlock=v.ownBlock\/v9.ownBlock=some W8.heap.size)
   {L:List (ae×Value)} (hL:∀x∈L,eV wr (fun b=>m<=b/\some b≠v.ownBlock) x.1.over x.2) {e:ae} {v':Value} (hlo:wr.heap.size<=lo) (hm:m<=lo) (hn:eV W8 (fun b=>lo<=b) e.over v'):
   ∀x∈L++[(e,v')],eV w9 (fun b=>m<=b/\some b≠v9.ownBlock) x.1.over x.2:=by
 have key:∀b,b<W8.heap.size->some b≠v.ownBlock->some b≠v9.ownBlock/\w9.heap[b]? =W8.heap[b]? :=fun b hb hne=>by
   refine⟨?_,hg.block b hb hne⟩;grind
 have hs:=h8.size;intro x hx;rcases Di.1 hx with hx|hx
 . refine(hL x hx).bn fun b hp hb=>?_
   obtain⟨k1,k2⟩:=key b (by omega) hp.2;exact⟨⟨hp.1,k1⟩,k2.trans (h8.block b hb)⟩
 . rw[Dx.1 hx];refine hn.bn fun b hp hb=>?_
   have hp:lo<=b:=hp;obtain⟨k1,k2⟩:=key b hb (fun e=>by have:=(hrow.lt b e.symm).2;omega);grind
theorem cI.below [Inhabited aF] {w w':World} (h:cI w) (hb:Below w.heap.size w w'):cI w':=fun b hlt=>(hb.block b (h.lt hlt)).trans (h b hlt)
theorem PE [Inhabited aF] (hdr:¬(default:aF).dr) {b:Nat} {m:aN} (hS:cJ b m) (k:aD) {w:World} (hw:cI w):
  Calls Tryz.prog 122 #[.pointer (some ⟨b,0,none⟩),cZ k] w fun e w'=>∃u,e= .returned (.tuple #[u, .bool (ec m k).2])/\y7 w' (fun b=>w.heap.size<=b) u (ec m k).1/\Below w.heap.size w w':=by
 have h:=Oq bu.ok (Kf hdr) (fn:=Tryz.f122) (hfn:=by kernel_rfl) (hb:=rfl) (y:=(b,m,k)) hS (args:=[.pointer (some ⟨b,0,none⟩), .agg (kf k).toArray]) (w:=w) (PL.cons (.wp _) (PL.cons (CM k) PL.nil)) hw;refine Calls.mono h ?_;rintro e w' ⟨v,rfl,hv,hbel,_⟩;obtain⟨u,rfl,hu⟩:=U2 hv;grind
theorem PM:∃i0,Tryz.prog.info? 57=some i0/\i0.zero=some (.agg #[.string ⟨#[]⟩, .string ⟨#[]⟩, .string ⟨#[]⟩])/\i0.size=3/\i0.bytes=48:=by
 have h:(Tryz.prog.info? 57).map (fun i=>(i.zero,i.size,i.bytes))=some (some (.agg #[.string ⟨#[]⟩, .string ⟨#[]⟩, .string ⟨#[]⟩]),3,48):=by kernel_rfl
 simp_all
theorem Pz (w5:World) (e:ae) (v:Value) (hv:v.oneCell'=true):∃W7,(storeCells ⟨w5.heap.size,0,none⟩ (cN e v).toArray.toList).run Tryz.prog (w5.alloc (.cells dI 78))= .ok () W7/\(loadCellsFrom ⟨w5.heap.size,0,none⟩ 0 19 #[]).run Tryz.prog W7= .ok (cN e v).toArray W7/\Below w5.heap.size w5 W7/\W7.heap.size=w5.heap.size+1:=by
 have hth:(w5.alloc (.cells dI 78)).there w5.heap.size 0 19:=zM w5 dI;obtain⟨_,hst⟩:=Hk (e:=e) (v:=v) hv hth;have r5:=World.rangeAt_setCells_same (w5.alloc (.cells dI 78)) w5.heap.size 0 (cN e v) hth;refine⟨_,hst,Gh r5,wo (Ad _) _ _ _ ((Below.refl w5.heap.size w5).alloc (Ad _) _),?_⟩;rw[size_setCells];simp_all
theorem YG (e:ae) (v:Value) (mm:Nat) (h:mm=19):Array.foldl (fun(cs:Array Value) (x:Value×Nat)=>cs.setIfInBounds x.2 x.1) (Array.map (fun x=>([.int .i64 0, .int .i64 0, .int .i64 0, .int .i64 0, .int .i64 0, .int .i64 0, .int .i64 0, .string ⟨#[]⟩, .string ⟨#[]⟩, .string ⟨#[]⟩, .string ⟨#[]⟩, .bool false, .bool false, .bool false, .bool false, .int .i64 0, .int .i64 0, .int .i64 0, .slice none 0 0]:List Value)[x % 19]?.getD default) (Array.range mm)) ((cN e v).toArray.zipIdx) 0 mm=(cN e v).toArray:=by
 subst h;kernel_rfl
theorem VN {P:Program} {ops:Array Oper} {Q:Exit->Act->World->Prop} {rest:List Oper} {a:Act} {W W':World} (h:W=W') (hk:wpList P ops Q rest a W'):wpList P ops Q rest a W:=h▸hk
theorem Tb [Inhabited aF] {G:bg} {m:aN} (g:bS G m) (hn:(G.alive.map (·.1)).Nodup):G.alive.length<=m.kept.length:=by
 have:=Ct (m:=m.kept.map (·.key)) hn fun k hk=>by
  have hs:(aB G.alive k).isSome=true:=by
   grind [aB]
  obtain⟨e,he⟩:=Es _ ((wW g k).1 hs);have h2:=As.1 he;exact Aw.2 ⟨e,(As.1 h2.1).1,by grind⟩
 grind
theorem Qf [Inhabited aF] (hdr:¬(default:aF).dr) {b:Nat} {m:aN} (hS:cJ b m) {w:World} (hw:cI w):
  Calls Tryz.prog 71 #[.pointer (some ⟨b,0,none⟩)] w fun e w'=>∃v L,e= .returned v/\L.map (·.1)=jx m/\(∀x∈L,eV w' (fun b=>w.heap.size<=b) x.1.over x.2)/\w'.ownsRow w.heap.size 78 19 v L.length (gh L)/\Below w.heap.size w w':=by
 obtain⟨i0,hi,hz0,hz1,hz2⟩:=PM;obtain⟨n,bk,ba,bd,bs,bv,G,hO,hG⟩:=hS.at_ w hw;have hA:G.alive.length<=50000:=Ar (Tb hG hO.ma.nd) hS.ok.kept;have c1:=hO.c1;go_enter Tryz.func71,Tryz.ntmps71
 go_wp2_with (first
  |(at_range;refine Q7 _ rfl _ 103 rfl Tryz.underlying103 ba rfl hO.ma ?_;intro w1 hit hb1 hs1)
  |go_in)
 go_frame
 have hbl:=iI c1;go_loopw [3] (fun v wr=>∃(ss left:List (aD×(Nat×DL))),cC wr w.heap.size ba cZ o8 G.alive ss left/\ss.length+left.length=G.alive.length/\wr.ownsRow w1.heap.size 57 3 v ss.length (kS (ss.map (·.1)))/\Below w.heap.size w wr/\w1.heap.size<=wr.heap.size)
  (fun _ wr=>wr.rangeLeft ba w.heap.size)
 case atStart=>exact⟨[],G.alive,hit,by simp,World.ownsRow_nil _ _ _ _,hb1,Ad _⟩
 case round=>
  obtain⟨ss,left,hrg,hcs,hrow,hbr,hbig⟩:=hrel;go_wp2_with (first
    |(at_next;refine Ig _ rfl _ rfl w.heap.size ba rfl hrg ?_ ?_)
    |go_in)
  . intro hl0 hperm;have hpk:(ss.map (·.1)).Perm (G.alive.map (·.1)):=hperm.map _;have hnd:(ss.map (·.1)).Nodup:=hpk.nodup_iff.2 hO.ma.nd;have hsl:(ss.map (·.1)).length<=1000000:=by rw[hpk.length_eq,A1];omega
    have hrow':wr.ownsRow w1.heap.size 57 3 u3 (ss.map (·.1)).length (kS (ss.map (·.1))):=by rw[A1];omega
    obtain⟨sa,sc,rfl⟩:∃sa sc,u3= .slice sa ss.length sc:=by
     rcases hrow.2 with⟨h1,h2⟩|⟨g,cap,_,h1,_⟩
     all_goals grind
    have hcall:=Ol hnd hrow' hsl hbig;go_wp2_with (go_at_call 119;go_loud (refine hcall.mono ?_;rintro e w2 ⟨rfl,hb2,ks,hso,hmem,hlen,hks⟩))
    rw[A1]at hlen hks;have hB2:Below w.heap.size w w2:=hbr.trans (hb2.mono hb1.size);have hw2:cI w2:=cI.below hw hB2;obtain⟨i4,z4,by4,hi4,hz40,hz41,hz42,hz43,hz44⟩:=GK;go_loopw [5,29] (fun v i wr=>∃(j:Nat) (L:List (ae×Value)),j<=ss.length/\i= .int .i64 j/\L.map (·.1)=(ks.take j).map (fun k=>(ec m k).1)/\(∀x∈L,eV wr (fun b=>w2.heap.size<=b/\some b≠v.ownBlock) x.1.over x.2)/\wr.ownsRow w2.heap.size 78 19 v L.length (gh L)/\Below w2.heap.size w2 wr)
     (fun _ i _=>ss.length - (intOf i).toNat)
    case atStart=>exact⟨0,[],Au _,rfl,rfl,fun x hx=>absurd hx (by simp),World.ownsRow_nil _ _ _ _,Below.refl _ _⟩
    case round=>
     obtain⟨j,L,hj,rfl,hL,hLd,hrowL,hbj⟩:=hrel;have hbw:Below w.heap.size w wr:=hB2.trans (hbj.mono hB2.size);have hLl:L.length=j:=by
       have:=Aj List.length hL;grind
     by_cases hlt:j<ss.length
     . have hltk:j<ks.length:=by omega
       obtain⟨g,cap,hv,hbg,hg2,hka⟩:∃g cap,(Value.slice sa ss.length sc)= .slice (some ⟨g,0,none⟩) ss.length cap/\w1.heap.size<=g/\g<w2.heap.size/\gI w2 g ks:=hks.resolve_left (fun e=>by rw[e]at hltk;grind);simp only[Value.slice.injEq]at hv;obtain⟨rfl, -,rfl⟩:=hv;obtain⟨c0,c1',c2⟩:=hka.below (hbj.block g hg2) j hltk;obtain⟨k,hk⟩:∃k,ks[j]=k:=⟨_,rfl⟩;rw[hk]at c0 c1' c2;obtain⟨W,hW⟩:∃W,wr.alloc (.cells #[.string ⟨k.name.toArray⟩, .string ⟨k.domain.toArray⟩, .string ⟨k.path.toArray⟩] 57)=W:=⟨_,rfl⟩;have hbW:Below wr.heap.size wr W:=by rw[<-hW];exact(Below.refl _ _).alloc (Ad _) _
       have d0:W.cell? ⟨wr.heap.size,0,none⟩=some (.string ⟨k.name.toArray⟩):=by rw[<-hW];simp
       have d1:W.cell? ⟨wr.heap.size,1,none⟩=some (.string ⟨k.domain.toArray⟩):=by rw[<-hW];simp
       have d2:W.cell? ⟨wr.heap.size,2,none⟩=some (.string ⟨k.path.toArray⟩):=by rw[<-hW];simp
       have hcall:=PE hdr hS k (w:=W) (cI.below hw (hbw.trans (hbW.mono hbw.size)));rw[show cZ k= .agg #[.string ⟨k.name.toArray⟩, .string ⟨k.domain.toArray⟩, .string ⟨k.path.toArray⟩]from rfl]at hcall;obtain⟨SZ,mm,hSZ,hsz,hm⟩:=uE;have hz0':dI=dI:=rfl;have hm0:¬mm=0:=by have h:mm=19:=hm;omega
       have hmx:¬16777216<mm:=by have h:mm=19:=hm;omega
       have hL1:L.length+1<=1000001:=by omega
       have hbyt:(L.length+1)*by4<=140737488355328:=Ar (Nat.mul_le_mul hL1 hz44) (by decide);have hmax:L.length+1<=maxLen:=by grind [maxLen]
       clear hz0';go_wp2_with (first
         |(go_at_call 122;(refine hcall.mono ?_;rintro e w5 ⟨u,rfl,⟨v',hu',hd5⟩,hb5⟩;obtain⟨W7,hst,hld,hb7,hs7⟩:=Pz w5 (ec m k).1 v' (by(obtain⟨_,_,_,hh⟩:=hd5.one;rw[hh];rfl));have hone:∀u∈cN (ec m k).1 v',u.oneCell'=true:=zB (by(obtain⟨_,_,_,hh⟩:=hd5.one;rw[hh];rfl));obtain⟨cs,hcs⟩:∃cs:Array Value,(cN (ec m k).1 v').toArray=cs:=⟨_,rfl⟩;have hcz:cs.size=19:=(by(rw[<-hcs];rfl));have hu2:u= .agg cs:=(by(rw[hu',<-hcs];rfl));clear hu';subst hu2;have hfo:=YG (ec m k).1 v' mm hm;have hnl:(cN (ec m k).1 v').length=1*19:=rfl;rw[hcs]at hfo hst hld;obtain⟨nw,hnw⟩:∃nw,cN (ec m k).1 v'=nw:=⟨_,rfl⟩;rw[hnw]at hone hcs hnl;rw[<-(hm:mm=19)]at hld hcz;unfold dI at hst;obtain⟨W8,hW8⟩:∃W8,W7.alloc (.cells cs 78)=W8:=⟨_,rfl⟩;have hb8:Below W7.heap.size W7 W8:=(by(rw[<-hW8];exact(Below.refl _ _).alloc (Ad _) _));have hra:W8.rangeAt W7.heap.size 0 nw:=(by(rw[<-hW8,<-hcs,<-hnw];exact ug W7 (ec m k).1 v'));have hnc:∀j u,nw[j]? =some u->W8.cell? ((⟨w5.heap.size+1,0,none⟩:Addr).add j)=some u:=(fun j u hj=>by(rw[Addr.add_mid,<-hs7];exact hra j u hj));have hrow8:=sr (sr (sr (sr hrowL hbW) hb5) hb7) hb8;have s5:=hb5.size;have s8:=hb8.size))
         |(at_builtin;go_loud ((first|refine VN (W':=W8) (by grind) ?_|skip);refine wpList_append_own_at _ rfl _ _ 25 rfl w2.heap.size 78 i4 _ 19 by4 Tryz.underlying25 hi4 hz40 hz41 hz42 hz43 (by decide) _ _ _ rfl hrow8 ⟨w5.heap.size+1,0,none⟩ 1 1 nw rfl hnl hnc hone hmax hbyt (by(have:=hbj.size;have:=hbW.size;omega)) ?_;intro v9 w9 hrow9 hg9 hnil9 hat9)))
       refine⟨⟨j+1,L++[((ec m k).1,v')],hlt,by go_num,?_,?_,?_,?_⟩,?_⟩
       . rw[Br,hL,El,Ag hltk,hk,Br];rfl
       . have h1:=hbW.size;have h2:=hb5.size;refine Tl hrowL (((hbW.trans (hb5.mono h1)).trans (hb7.mono (by omega))).trans (hb8.mono (by omega))) hg9 hat9 hLd h1 (by have:=hbj.size;omega) (hd5.bn fun b hp hb=>⟨hp,?_⟩);exact(hb8.block b (AR hb hb7.size)).trans (hb7.block b hb)
       . rw[U8,Bu];simp_all
       . have h1:=hbj.size;have h2:=hbW.size;exact((((hbj.trans (hbW.mono h1)).trans (hb5.mono (by omega))).trans (hb7.mono (by omega))).trans (hb8.mono (by omega))).grown hg9 (by omega) (fun k e=>(hrow8.lt k e).1)
       . simp[intOf];omega
     . have hjl:j=ss.length:=by omega
       subst hjl;have hall:ks.take ss.length=ks:=Ay (by omega);rw[hall,TJ hG hso fun k=>by
         rw[hmem,hpk.mem_iff];grind [aB]]at hL
       go_wp2;go_ret;refine⟨_,L,rfl,hL,fun x hx=>(hLd x hx).bn fun b hp _=>⟨Ar hB2.size hp.1,rfl⟩,⟨hrowL.1,?_⟩,hbw⟩;rcases hrowL.2 with hn|⟨g,cap,cur,hv,hbg,rest⟩
       . exact .inl hn
       . exact .inr ⟨g,cap,cur,hv,Ar hB2.size hbg,rest⟩
  . intro k jI jL left' w2 hrg2 hlt hg2 hs2 hen;rw[show cZ k= .agg #[.string ⟨k.name.toArray⟩, .string ⟨k.domain.toArray⟩, .string ⟨k.path.toArray⟩]from rfl]at hen⊢;have hr0:=hrg.isWalk;have hrow2:w2.ownsRow w1.heap.size 57 3 u3 ss.length (kS (ss.map (·.1))):=hrow.kept (row:=some w.heap.size) ⟨hg2.os,hg2.tape,hg2.output,hg2.size,fun i hi hne=>hg2.block i hi fun e=>hne (by rw[e])⟩ (by
     obtain⟨o,ho,hw⟩:=hr0;exact ownsRow_ne_a hrow ho (fun cur e=>by rw[e]at hw;cases hw))
    have hb2:Below w.heap.size w w2:=hbr.trans ⟨hg2.os,hg2.tape,hg2.output,hg2.size,fun i hi=>hg2.block i (AR hi hbr.size) (by omega)⟩;obtain⟨X,hX⟩:∃X,(w2.alloc (.cells #[.string ⟨k.name.toArray⟩, .string ⟨k.domain.toArray⟩, .string ⟨k.path.toArray⟩] 57)).alloc (.cells #[.string ⟨k.name.toArray⟩, .string ⟨k.domain.toArray⟩, .string ⟨k.path.toArray⟩] 57)=X:=⟨_,rfl⟩;have hrow3:X.ownsRow w1.heap.size 57 3 u3 ss.length (kS (ss.map (·.1))):=by rw[<-hX];exact(hrow2.alloc _).alloc _
    have hk3:KeepsWalks w2 X:=by rw[<-hX];exact(KeepsWalks.alloc _ _).trans (KeepsWalks.alloc _ _)
    have hb3:Below w.heap.size w X:=by rw[<-hX];exact(hb2.alloc hb2.size _).alloc (by have:=hb2.size;simp;omega) _
    have hs3:X.heap.size=wr.heap.size+2:=by rw[<-hX];simp;omega
    have hnc:∀i u,([.string ⟨k.name.toArray⟩, .string ⟨k.domain.toArray⟩, .string ⟨k.path.toArray⟩]:List Value)[i]? =some u->X.cell? ((⟨wr.heap.size+1,0,none⟩:Addr).add i)=some u:=fun i u hi=>by
     rw[Addr.add_lit,<-hX,show wr.heap.size+1=(w2.alloc (.cells #[.string ⟨k.name.toArray⟩, .string ⟨k.domain.toArray⟩, .string ⟨k.path.toArray⟩] 57)).heap.size from by rw[<-hs2];simp_all];match i with
     |0=>cases hi;simp
     |1=>cases hi;simp
     |2=>cases hi;simp
     |_+3=>cases hi
    have hone:∀u∈([.string ⟨k.name.toArray⟩, .string ⟨k.domain.toArray⟩, .string ⟨k.path.toArray⟩]:List Value),u.oneCell'=true:=by simp[Value.oneCell']
    have hlen:ss.length+1<=G.alive.length:=by omega
    have hmax:ss.length+1<=maxLen:=by grind [maxLen]
    go_wp2_with (at_builtin;go_loud (refine wpList_append_own _ rfl _ _ 165 rfl w1.heap.size 57 i0 _ 3 48 Tryz.underlying165 hi hz0 hz1 hz2 rfl (by decide) _ _ _ rfl hrow3 ⟨wr.heap.size+1,0,none⟩ 1 1 [.string ⟨k.name.toArray⟩, .string ⟨k.domain.toArray⟩, .string ⟨k.path.toArray⟩] rfl rfl hnc hone hmax (by omega) (by omega) ?_;intro v3 w3 hown hg3 hnil))
    have hrg3:=(hrg2.jC hk3).jC (KeepsWalks.of_grownBy hg3 (ownsRow_not_walk_a hrow3));have hs4:=hg3.size;go_roundw
    case rel=>exact⟨ss++[(k,(jI,jL))],left',hrg3,by grind,by rw[Br,AW,D6,Rj,Bu];omega,hb3.grown hg3 hb3.size (fun k e=>Ar hb1.size (hrow3.lt k e).1),by omega⟩
    case measure=>rw[hrg3.left_eq,hrg.left_eq];omega
section
theorem Xi {w:World} {p:Nat->Prop} {n:Nat} {l:List aq} {v:Value} (hp:∀b,p b->n<=b) (h:eV w p l v):Up w n (cL l) v:=by
 unfold cL;rcases h with⟨rfl,a,c,rfl⟩|⟨b,off,cap,arr,ty,fz,rfl,hpb,hb,hc,hl,hi⟩
 . exact .bP rfl a c
 . refine .bh b off cap arr ty fz 3 (fun i j=>(arr[off+i*3+j]?).getD (.bool false)) (hp b hpb) hb (by decide) hl (fun _ _ _=>rfl) hc (fun i x j v hx hv=>?_) (fun i x j v hx hv=>?_) (fun i x j v hx hv=>?_)
   all_goals
    have hil:i<l.length:=(Ae.1 hx).1;have hxe:l[i]=x:=(Ae.1 hx).2;obtain⟨e0,e1,e2⟩:=hi i hil;rw[hxe]at e0 e1 e2;have hj:j<3:=(Ae.1 hv).1;match j,hj with
    |0,_=>cases hv;first|rfl|exact(by rw[Bx,e0];rfl)|(simp only[Bx,e0,Bi];exact .int _ _)
    |1,_=>cases hv;first|rfl|exact(by rw[e1];rfl)|(simp only[e1,Bi];exact .int _ _)
    |2,_=>cases hv;first|rfl|exact(by rw[e2];rfl)|(simp only[e2,Bi];exact .int _ _)
theorem qzS {w:World} {p:Nat->Prop} {n:Nat} {L:List (ae×Value)} {v:Value} (hp:∀b,p b->n<=b) (hd:∀x∈L,eV w p x.1.over x.2) (h:w.ownsRow n 78 19 v L.length (gh L)):Up w n (dG (L.map (·.1))) v:=by
 unfold dG;obtain⟨hlen,hr⟩:=h;rcases hr with⟨rfl,h0⟩|⟨g,cap,cur,rfl,hpp,hb,hc,hm,hsz,htk⟩
 . exact .fu (by grind)
 . rw[show L.length=(L.map (·.1)).length by simp];have cell:∀i (hi:i<L.length) j,j<19->cur[i*19+j]? =(cN L[i].1 L[i].2)[j]? :=fun i hi j hj=>by
     rw[<-LA L i hi j hj,<-htk,A4,Al (by omega),A6]
   refine .bh g 0 cap cur 78 (0,0) 19 (fun i j=>(cur[i*19+j]?).getD (.bool false)) hpp hb (by decide) (by grind) (fun _ _ _=>rfl) (by grind) (fun i x j v hx hv=>?_) (fun i x j v hx hv=>?_) (fun i x j v hx hv=>?_)
   . have hj:j<19:=(Ae.1 hv).1;match j,hj with
     |0,_|1,_|2,_|3,_|4,_|5,_|6,_|7,_|8,_|9,_|10,_|11,_|12,_|13,_|14,_|15,_|16,_|17,_|18,_=>cases hv;rfl
   all_goals
     have hil:i<L.length:=by simpa using(Ae.1 hx).1
     have hxe:L[i].1=x:=by simpa using(Ae.1 hx).2
     have hdi:=hd _ (AN hil);rw[hxe]at hdi;have hj:j<19:=(Ae.1 hv).1;have hcl:=cell i hil j hj;rw[hxe]at hcl
   . rw[Ax,hcl,Ag (show j<(cN x L[i].2).length from hj)];rfl
   . show Up w n v ((cur[i*19+j]?).getD _)
     rw[hcl];match j,hj with
     |0,_|1,_|2,_|3,_|4,_|5,_|6,_|15,_|16,_|17,_=>cases hv;exact .int _ _
     |7,_|8,_|9,_|10,_=>cases hv;exact .str _
     |11,_|12,_|13,_|14,_=>cases hv;exact .bool _
     |18,_=>cases hv;exact Xi hp hdi
variable [Inhabited aF]
def J6:aK:={Y:=Nat×aN,pre:=fun y=>cJ y.1 y.2,args:=fun y=>[.wp ⟨y.1,0,none⟩],res:=fun y=>dG (jx y.2)}
theorem Ua (hdr:¬(default:aF).dr):CO vR J6:=jS bu.ok (by
 rintro⟨b,m⟩ hpre w args hold ⟨h1,h2⟩;match args,h1 with
 |[v],_=>
 have e1:=Gj (h2 0 _ _ rfl rfl);subst e1;refine(Qf hdr hpre hold).mono ?_;rintro e w' ⟨v',L,rfl,hL,hd,hr,hb⟩;refine⟨_,rfl, .inr ?_,hb,fun h=>(hdr h).elim⟩;show Up w' w.heap.size (dG (jx m)) v'
 rw[<-hL];exact qzS (fun _ h=>h) hd hr)
noncomputable def FY (f:FuncId):Option aK:=bif Nat.beq f vR then some J6 else bif Nat.beq f rz then some K5 else FP f
theorem Ll (hdr:¬(default:aF).dr):∀f C,FY f=some C->CO f C:=bM (Ua hdr) (bM (Kf hdr) (Lk hdr))
end
section
variable [Inhabited aF]
abbrev Mp:=Option (Nat×aN)
def Mp.arg:Mp->SV|none=> .bj|some y=> .wp ⟨y.1,0,none⟩
def Mp.m:Mp->aN|none=>⟨[],[],[]⟩|some y=>y.2
def Mp.at:Mp->Prop|none=>True|some y=>cJ y.1 y.2
noncomputable def Mp.gL (c:FuncId->Option aK):Mp->FuncId->Option aK|none=>bU|some _=>c
noncomputable def Mp.l5 (a:Nat×aN->FuncId->Nat->Option aL):Mp->FuncId->Nat->Option aL|none=>fun _ _=>none|some y=>a y
theorem GO {c:FuncId->Option aK} (h:∀f C,c f=some C->CO f C) (y:Mp):∀f C,y.gL c f=some C->CO f C:=by
 cases y with
 |none=>exact gn
 |some y=>exact h
def E4:aK:={Y:=Mp,pre:=fun y=>y.at,args:=fun y=>[y.arg],res:=fun y=>items (fG y.m)}
def XQ (y:Nat×aN):aL:=let l:=jx y.2;{α:=Nat,ok:=fun i=>i<=l.length,μ:=fun i=>l.length - i,bn:=[],bc:=fun i=>[(3, .own 0),(7,dG l),(8,i64 (Int.ofNat l.length)),(9,i64 i)],bV:=fun i=>[(0,ye ((l.take i).map ae.item))]}
theorem Ls (hdr:¬(default:aF).dr):CO pE E4:=bR (cfg:=fun(y:Mp)=>cm (Mp.gL FY y) (Mp.l5 (fun z=>cT pE 3 (XQ z)) y)) bu (fun _=>rfl) (fun(y:Mp)=>GO (Ll hdr) y) (n:=600) (by
 rintro(_|⟨b,m⟩) hm
 . repeat' first|exact trivial|exact rfl|refine aG (fun _=>?_) fun _=>?_|apply And.intro
 have hm:cJ b m:=hm;have hwl:=R6 hm.ok;refine⟨(b,m),?_⟩
 repeat first|refine⟨rfl,?_⟩|refine⟨trivial,?_⟩
 refine⟨hm,?_⟩;refine⟨⟨(0:Nat),Au _,?_⟩,?_⟩
 . repeat' first|exact trivial|exact rfl|refine aG (fun _=>?_) fun _=>?_|apply And.intro
   all_goals exact az.2 ⟨_,rfl,ah.2 ⟨rfl,fun _=>rfl⟩⟩
 intro (x:Nat) hx;have hx:x<=(jx m).length:=hx;refine aG (fun hlt=>?_) fun hge=>?_
 . have hlt':x<(jx m).length:=cP hlt;have hf:=CV ae.item hlt';have hz:(((jx m).take x).map ae.item).length+1<=60000:=by grind
   refine az.2 ⟨_,eA hlt',?_⟩;refine⟨(jx m)[x].item,rfl,?_⟩;refine ah.2 ⟨GD _ hz,?_⟩;refine ah.2 ⟨cW x (by omega),?_⟩;refine⟨(x+1:Nat),hlt',by show(jx m).length - (x+1)<(jx m).length - x;omega,?_⟩
   repeat' first|exact trivial|exact rfl|refine aG (fun _=>?_) fun _=>?_|apply And.intro
   all_goals ((conv=>whnf);rw[hf])
 . have hge':(jx m).length<=x:=jz hge;refine⟨by rw[Ay hge'];rfl,?_⟩
   repeat' first|exact trivial|exact rfl|refine aG (fun _=>?_) fun _=>?_|apply And.intro)
noncomputable def Ns (f:FuncId):Option aK:=bif Nat.beq f pE then some E4 else FY f
theorem Vu (hdr:¬(default:aF).dr):∀f C,Ns f=some C->CO f C:=bM (Ls hdr) (Ll hdr)
def MP:aK:={Y:=Mp×aD,pre:=fun y=>y.1.at,args:=fun y=>[y.1.arg, .agg y.2.enc],res:=fun y=>cL (kX y.1.m y.2)}
def ZG (y:Nat×aN×aD):aL:=let l:=aX y.2.1 y.2.2;{α:=Nat,ok:=fun i=>i<=l.length,μ:=fun i=>l.length - i,bn:=[3],bc:=fun i=>[(5, .own 1),(10,dG l),(11,i64 (Int.ofNat l.length)),(12,i64 i)],bV:=fun i=>[(1, .arr aq ((l.take i).map (·.dot)) aq.enc Ty.nF)]}
theorem XX (hdr:¬(default:aF).dr):CO Gg MP:=bR (cfg:=fun(y:Mp×aD)=>cm (Mp.gL Ns y.1) (Mp.l5 (fun z=>cT Gg 3 (ZG (z.1,z.2,y.2))) y.1)) bu (fun _=>rfl) (fun(y:Mp×aD)=>GO (Vu hdr) y.1) (n:=600) (by
 rintro⟨_|⟨b,m⟩,k⟩ hm
 . repeat' first|exact trivial|exact rfl|refine aG (fun _=>?_) fun _=>?_|apply And.intro
 have hm:cJ b m:=hm;have hkl:=Fg hm.ok k;refine⟨(b,m,k),?_⟩
 repeat first|refine⟨rfl,?_⟩|refine⟨trivial,?_⟩
 refine⟨hm,?_⟩;refine⟨⟨(0:Nat),Au _,?_⟩,?_⟩
 . repeat' first|exact trivial|exact rfl|refine aG (fun _=>?_) fun _=>?_|apply And.intro
   all_goals exact az.2 ⟨_,rfl,ah.2 ⟨rfl,fun _=>rfl⟩⟩
 intro (x:Nat) hx;have hx:x<=(aX m k).length:=hx;refine aG (fun hlt=>?_) fun hge=>?_
 . have hlt':x<(aX m k).length:=cP hlt;have hf:=CV (fun e:ae=>e.dot) hlt';refine az.2 ⟨_,eA hlt',?_⟩;refine⟨(aX m k)[x].dot,rfl,?_⟩;refine ah.2 ⟨NV _ (by grind),?_⟩;refine ah.2 ⟨cW x (by omega),?_⟩;refine⟨(x+1:Nat),hlt',by show(aX m k).length - (x+1)<(aX m k).length - x;omega,?_⟩
   repeat' first|exact trivial|exact rfl|refine aG (fun _=>?_) fun _=>?_|apply And.intro
   all_goals ((conv=>whnf);rw[hf])
 . have hge':(aX m k).length<=x:=jz hge;refine⟨by rw[Ay hge'];rfl,?_⟩
   repeat' first|exact trivial|exact rfl|refine aG (fun _=>?_) fun _=>?_|apply And.intro)
end
end Go.Proofs
namespace Go.Proofs
open Go Go.Am Go.RowKit Go.Sy
section
def oh (l:List ab) (r:bG) (now:Int):List ab:=l.filter fun x=>lE x r now
def gE (l:List ab) (r:bG) (now:Int):List ab:=fD (oh l r now)
def ub (l:List ab) (r:bG):Prop:=l.length<40/\KN l/\(∀x∈l,qw x)/\lB r
def nW (x:ab):Bs:=x.key.name++[61]++x.aa.value
def jo (l:List ab):Bs:=pb (l.map nW)
def NP (l:List ab):Prop:=l.length<=100/\ ∀x∈l,x.key.name.length<=2000/\x.aa.value.length<=2000
theorem Ri (sep:Bs) (L:List Bs) (x:Bs):Go.Lib.joinTail sep (L++[x])=Go.Lib.joinTail sep L++sep++x:=by
 grind [Go.Lib.joinTail]
theorem S7 (L:List Bs) (x:Bs):pb (L++[x])=if L=[]then x else pb L++[59,32]++x:=by
 cases L with
 |nil=>simp only[BB,BA];exact Go.Lib.join_one x _
 |cons y L=>
  rw[An (by simp)];grind [pb,Go.Lib.join_cons,Ri]
theorem VG {l:List ab} {i:Nat} (h:i<l.length):jo (l.take (i+1))=if i=0 then nW l[i]else jo (l.take i)++[59,32]++nW l[i]:=by
 grind [jo,List.take_succ_eq_append_getElem,S7,List.length_map]
theorem LG {l:List ab} (h:∀x∈l,x.key.name.length<=2000/\x.aa.value.length<=2000):∀i,i<=l.length->(jo (l.take i)).length<=i*4005
 |0,_=>by simp[jo,pb,Go.Lib.join_nil]
 |i+1,hi=>by
  have hi2:i<l.length:=hi;have ih:=LG h i (Nat.le_of_lt hi2);have hx:=h l[i] (AN hi2);have hp:(nW l[i]).length<=4001:=by grind [nW]
  rw[VG hi2];grind
section
variable [Inhabited aF]
noncomputable def FZ (hdr:¬(default:aF).dr) (f:FuncId):Option aK:=bif Nat.beq f GU then some M3 else bif Nat.beq f Hw then some MR else bif Nat.beq f F.strings_Join then some NM else bU f
theorem Kx (hdr:¬(default:aF).dr):∀f C,FZ hdr f=some C->CO f C:=bM (Zg hdr) (bM X0 (bM (qzt hdr) gn))
def Nf:aK:={Y:=List ab×bG×Int,pre:=fun y=>ub y.1 y.2.1,args:=fun y=>[items y.1, .agg y.2.1.enc,i64 y.2.2],res:=fun y=>items (gE y.1 y.2.1 y.2.2)}
def O6 (y:List ab×bG×Int):aL:={α:=Nat,ok:=fun i=>i<=y.1.length,μ:=fun i=>y.1.length - i,bn:=[2,4],bc:=fun i=>[(7, .own 1),(10,items y.1),(11,i64 (Int.ofNat y.1.length)),(12,i64 i)],bV:=fun i=>[(1,ye ((y.1.take i).filter fun x=>lE x y.2.1 y.2.2))]}
theorem Z2 (hdr:¬(default:aF).dr):CO sb Nf:=bR (cfg:=fun(y:List ab×bG×Int)=>cm (FZ hdr) (cT sb 3 (O6 y))) bu (fun _=>rfl) (fun _=>Kx hdr) (n:=700) (by
 rintro⟨l,r,now⟩ ⟨h1,h2,h3,h4⟩;have h1:l.length<40:=h1;have h2:KN l:=h2;have h3:∀x∈l,qw x:=h3;have h4:lB r:=h4;refine⟨⟨(0:Nat),Au _,?_⟩,?_⟩
 . repeat' first|exact trivial|exact rfl|refine aG (fun _=>?_) fun _=>?_|apply And.intro
   all_goals exact az.2 ⟨_,rfl,ah.2 ⟨rfl,fun _=>rfl⟩⟩
 intro (x:Nat) hx;have hx:x<=l.length:=hx;have hlen:=Zy (l:=l) (x:=x) (p:=fun z:ab=>lE z r now);refine aG (fun hlt=>?_) fun hge=>?_
 . have hlt':x<l.length:=cP hlt;have hf:=LQ (p:=fun z:ab=>lE z r now) hlt';have mu:l.length - (x+1)<l.length - x:=by omega
   have hz:((l.take x).filter fun z:ab=>lE z r now).length+1<=60000:=by omega
   (conv=>whnf)
   refine az.2 ⟨_,eA hlt',?_⟩;refine⟨(l[x],r,now),?_⟩
   repeat first|refine⟨rfl,?_⟩|refine⟨trivial,?_⟩
   refine⟨⟨h3 _ (AN hlt'),h4⟩,?_⟩;refine aG (fun h=>?_) fun h=>?_
   . have h:lE l[x] r now=true:=h;simp only[h,BB]at hf;refine⟨l[x],rfl,?_⟩
     (conv=>whnf)
     refine ah.2 ⟨GD _ hz,?_⟩
     (conv=>whnf)
     refine ah.2 ⟨cW x (by omega),?_⟩;refine⟨(x+1:Nat),hlt',mu,?_⟩
     repeat' first|exact trivial|exact rfl|refine aG (fun _=>?_) fun _=>?_|apply And.intro
     all_goals ((conv=>whnf);rw[hf])
   . have h:lE l[x] r now=false:=h;simp only[h,Az,Bh,BQ]at hf
     (conv=>whnf)
     refine ah.2 ⟨cW x (by omega),?_⟩;refine⟨(x+1:Nat),hlt',mu,?_⟩
     repeat' first|exact trivial|exact rfl|refine aG (fun _=>?_) fun _=>?_|apply And.intro
     all_goals ((conv=>whnf);rw[hf])
 . have hall:(l.take x).filter (fun z:ab=>lE z r now)=oh l r now:=Zx (jK hge);have hsub:(oh l r now).Sublist l:=AI;refine⟨oh l r now,?_⟩;refine⟨by(rw[hall])<;>rfl,?_⟩;refine⟨⟨by have:=hsub.length_le;omega,h2.sub hsub⟩,?_⟩
   repeat' first|exact trivial|exact rfl|refine aG (fun _=>?_) fun _=>?_|apply And.intro)
def M4:aK:={Y:=List ab,pre:=NP,args:=fun y=>[items y],res:=fun y=> .str (jo y)}
def ZM (y:List ab):aL:={α:=Nat,ok:=fun i=>i<=y.length,μ:=fun i=>y.length - i,bn:=[],bc:=fun i=>[(3, .own 0),(6,items y),(7,i64 (Int.ofNat y.length)),(8,i64 i)],bV:=fun i=>[(0, .arr Bs ((y.take i).map nW) kV Ty.string)]}
theorem Zj (hdr:¬(default:aF).dr):CO Gn M4:=bR (cfg:=fun(y:List ab)=>cm (FZ hdr) (cT Gn 3 (ZM y))) bu (fun _=>rfl) (fun _=>Kx hdr) (n:=700) (by
 intro (l:List ab) hpre;obtain⟨h1,h2⟩:=hpre;have h1:l.length<=100:=h1;refine⟨⟨(0:Nat),Au _,?_⟩,?_⟩
 . repeat' first|exact trivial|exact rfl|refine aG (fun _=>?_) fun _=>?_|apply And.intro
   all_goals exact az.2 ⟨_,rfl,ah.2 ⟨rfl,fun _=>rfl⟩⟩
 intro (x:Nat) hx;have hx:x<=l.length:=hx;refine aG (fun hlt=>?_) fun hge=>?_
 . have hlt':x<l.length:=cP hlt;have hf:=CV nW hlt';have hb:=h2 l[x] (AN hlt');have mu:l.length - (x+1)<l.length - x:=by omega
   (conv=>whnf)
   refine az.2 ⟨_,eA hlt',?_⟩
   (conv=>whnf)
   refine ah.2 ⟨by grind [Nat.ble_eq],?_⟩
   (conv=>whnf)
   refine ah.2 ⟨by grind [Nat.ble_eq],?_⟩;refine⟨nW l[x],rfl,?_⟩
   (conv=>whnf)
   refine ah.2 ⟨by grind [Nat.ble_eq],?_⟩
   (conv=>whnf)
   refine ah.2 ⟨cW x (by omega),?_⟩;refine⟨(x+1:Nat),hlt',mu,?_⟩
   repeat' first|exact trivial|exact rfl|refine aG (fun _=>?_) fun _=>?_|apply And.intro
   all_goals ((conv=>whnf);rw[hf])
 . have hge':l.length<=x:=jz hge;have hall:l.take x=l:=Ay hge';have hl:=LG h2 l.length (Ad _);rw[A8]at hl;refine⟨l.map nW,?_⟩;refine⟨by(rw[hall])<;>rfl,?_⟩;refine⟨rfl,?_⟩;refine⟨⟨by grind,by grind [jo]⟩,?_⟩
   repeat' first|exact trivial|exact rfl|refine aG (fun _=>?_) fun _=>?_|apply And.intro)
end
end
end Go.Proofs
namespace Go.Proofs
open Go Go.Am Go.RowKit Go.Sy Go.Gm
theorem cK.ql {w w':World} {n b bk ba bd bs bv:Nat} {G:bg} (h:cK w n b bk ba bd bs bv G) (hb:eT (· =bv) w w') {V:List ((Int×Int)×Int)} (hm:ay w' bv eI cD V):cK w' n b bk ba bd bs bv {G with vec:=V}:=by
 obtain⟨n1,n2,n3,n4,n5,n6⟩:=h.ne;have hc:jk w w':=hb.cells fun k hk=>by subst hk;exact ay.isMap h.mv
 have cc:∀{b o:Nat} {v:Value},w.cell? ⟨b,o,none⟩=some v->w'.cell? ⟨b,o,none⟩=some v:=fun hv=>ep hv (hb.block _ (iI hv) fun e=>wv hv (by rw[e];exact ay.isMap h.mv))
 exact⟨cc h.c0,cc h.c1,cc h.c2,cc h.c3,cc h.cv,h.iC.same (hb.block _ (ay.lt h.iC) n3),h.ma.same (hb.block _ (ay.lt h.ma) n5),h.md.same (hb.block _ (ay.lt h.md) n6),hm,fun x hx=>(h.mi x hx).same (hb.block _ (ay.lt (h.mi x hx)) (h.sh hx).2.2.2),h.nd,h.low,fun x hx=>(h.ev x hx).cells hc⟩
theorem yZ {w:World} {bs bv:Nat} {L:List ((Int×Int)×Int)} (hs:w.cell? ⟨bs,0,none⟩=some (.map (some bv))) (hm:ay w bv eI cD L) (a i n:Int) (hd:fg ⟨a,i,n⟩=true):
    Calls Tryz.prog 49 #[.pointer (some ⟨bs,0,none⟩), .agg #[.int .i64 a, .int .i64 i, .int .i64 n]] w fun e w'=>e= .returned (.bool (decide (n<=oV L a i)))/\Below w.heap.size w w':=by
  have hc:=fun w=>Hg a i n w
  rw[hd]at hc;have hbv:bv<w.heap.size:=ay.lt hm;have hbs:bs<w.heap.size:=iI hs;obtain⟨W,hW⟩:∃W,w.alloc (.cells #[.int .i64 a, .int .i64 i, .int .i64 n] 70)=W:=⟨_,rfl⟩;have hq:Below w.heap.size w W.drew:=by rw[<-hW];exact((Below.refl w.heap.size w).alloc (Ad _) _).drew
  have hsz:W.drew.heap.size=w.heap.size+1:=by rw[<-hW];simp
  have hn0:W.drew.cell? ⟨w.heap.size,0,none⟩=some (.int .i64 a):=by rw[<-hW];simp
  have hn1:W.drew.cell? ⟨w.heap.size,1,none⟩=some (.int .i64 i):=by rw[<-hW];simp
  have hn2:W.drew.cell? ⟨w.heap.size,2,none⟩=some (.int .i64 n):=by rw[<-hW];simp
  have hge:∀{x:World} (_:x.cell? ⟨bs,0,none⟩=some (.map (some bv))) (_:ay x bv eI cD L),Calls Tryz.prog 50 #[.pointer (some ⟨bs,0,none⟩), .agg #[.int .i64 a, .int .i64 i]] x fun e w'=>e= .returned (.int .i64 (oV L a i))/\Below x.heap.size x w':=fun h1 h2=>l4 h1 h2 a i
  go_enter Tryz.func49,Tryz.ntmps49
  go_wp2_with fail
  go_region_with (first
   |(go_at_call 81;refine(hc _).mono ?_;rintro e w1 ⟨rfl,hb⟩;have hq1:=hq.trans (hb.mono (by rw[hsz];omega));have hs1:w1.cell? ⟨bs,0,none⟩=some (.map (some bv)):=(hq1.cell hbs).trans hs;have hm1:ay w1 bv eI cD L:=hm.same (hq1.block bv hbv);have hz1:=hb.size;have hb0:=(hb.cell (p:=⟨w.heap.size,0,none⟩) (by rw[hsz];grind)).trans hn0;have hb1:=(hb.cell (p:=⟨w.heap.size,1,none⟩) (by rw[hsz];grind)).trans hn1;have hb2:=(hb.cell (p:=⟨w.heap.size,2,none⟩) (by rw[hsz];grind)).trans hn2)
   |(go_at_call 50;refine(hge (by assumption) (by assumption)).mono ?_;rintro e w2 ⟨rfl,hc2⟩;have hq2:=hq1.trans (hc2.mono (by rw[hsz]at hz1;omega));have hc0:=(hc2.cell (p:=⟨w.heap.size,2,none⟩) (by rw[hsz]at hz1;show w.heap.size<_;omega)).trans hb2))
  all_goals (go_wp2)
  all_goals (go_ret)
  all_goals (exact⟨rfl,hq2⟩)
end Go.Proofs
