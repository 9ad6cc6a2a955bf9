/- Part 8: an evaluator, proved sound, and its use at this seat; no condition. -/
import Derived.WalkKit
import Derived.Deep.RegionWith
import Derived.Test.YtggljmdeadplkaaGreatP0
import Derived.Test.YtggljmdeadplkaaGreatP3
import Derived.Test.YtggljmdeadplkaaGreatP6
import Derived.Test.YtggljmdeadplkaaGreatP7
set_option linter.unusedSimpArgs false
set_option linter.unusedVariables false
set_option linter.unusedSectionVars false
set_option linter.deprecated false
set_option maxRecDepth 100000
set_option maxHeartbeats 4000000
namespace Go.Proofs
open Go Go.Am Go.RowKit Go.Sy
section
variable [Inhabited aL]
structure Fk (m:cY):Prop where
 ctx:m.ctx.length<=100000
 seq:∀x∈m.ctx,0<=x.seq/\x.seq<=4294967296
 kept:m.kept.length<=50000
 dead:m.dead.length<=100000
end
section
variable [Inhabited aL]
structure boundM (m:cY) (k:Nat):Prop where
 ctx:m.ctx.length<=k
 seq:∀x∈m.ctx,oC x=true
 kept:m.kept.length<=k
 dead:m.dead.length<=100*k
end
section
variable [Inhabited aL]
def Lx (m:cY) (e:aR):Bool:=(e.kind==1)&& !decide (e.dot∈m.dead)
def CB (m:cY):List aR:=m.kept.filter (Lx m)
def l9 (m:cY) (k:bh):List aR:=(CB m).filter fun e=>decide (e.key=k)
def Nh:aR:=⟨⟨0,0,0⟩,⟨0,0,0⟩,0,vy,⟨[],false,false,false,false,0,0,0⟩,[]⟩
def qi (l:List aR):Option aR:=l.foldl (fun b e=>match b with|none=>some e|some y=>if um e.dR y.dR then some y else some e) none
def Cs (m:cY) (k:bh):aR×Bool:=((qi (l9 m k)).getD Nh,(qi (l9 m k)).isSome)
def CZ (x y:aR):Bool:=bL x.key y.key
def tA (out:List aR) (w:aR):List aR:=out.take (iR CZ out w)++w::out.drop (iR CZ out w)
def wI (m:cY) (l:List aR):List aR:=l.foldl (fun out x=>if(Cs m x.key).1.dot=x.dot then tA out (Cs m x.key).1 else out) []
def JY (m:cY):List aR:=wI m (CB m)
def vP (m:cY):List aa:=(JY m).map aR.item
def LK (m:cY) (k:bh):List bp:=(l9 m k).map (·.dot)
end
end Go.Proofs
namespace Go.Proofs
open Go Go.Am Go.RowKit Go.Sy Go.Gm
section
section
variable {K V:Type} [DecidableEq K]
end
abbrev DL:=List (bp×Int)
structure kj where
 kept:List (bp×(Value×aR))
 alive:List (bh×(Nat×DL))
 dead:DL
 vec:List ((Int×Int)×Int)
def tB (A:List (bh×(Nat×DL))) (k:bh) (d:bp):Prop:=∃x,fJ A k=some x/\(fJ x.2 d).isSome=true
def MS (A:List (bh×(Nat×DL))):Prop:=∀k x,fJ A k=some x->x.2≠[]
structure EK (kept:List (bp×(Value×aR))) (dead:bp->Prop) (A:List (bh×(Nat×DL))):Prop where
 al:∀k d,tB A k d↔∃x,fJ kept d=some x/\x.2.kind=1/\x.2.key=k/\ ¬dead d
 full:MS A
def Ka (L:List ((Int×Int)×Int)) (a i:Int):Int:=(fJ L (a,i)).getD 0
structure sV (G:kj) (m:cY):Prop where
 vec:∀a i,Ka G.vec a i=getM m.ctx a i
 kept:∀e:aR,e∈m.kept↔∃v,fJ G.kept e.dot=some (v,e)
 keys:∀d x,fJ G.kept d=some x->x.2.dot=d
 len:G.kept.length=m.kept.length
 sorted:m.kept.Pairwise fun x y=>og x.dot y.dot=true
 ctx:∀e∈m.kept,tv m.ctx e.dot=true
 dead:∀d,(fJ G.dead d).isSome=true↔d∈m.dead
 alv:EK G.kept (fun x=>(fJ G.dead x).isSome=true) G.alive
section
variable {α:Type} {less:α->α->Bool}
end
variable [Inhabited aL]
end
theorem LH {C:Inhabited aL->aH} {f:FuncId} {fn:Func} {body:Code} (hc:∀I:Inhabited aL, @Go.Sy.bX I Tryz.prog Tryz.tab f (C I)) (hfn:Tryz.tab.fns.get f=some fn) (hb:fn.body=some body) {args:List Value} {w:World} {b:Bool}
  (hy:∀I:Inhabited aL,∃y,(C I).pre y/\PL (cJ Tryz.tab w).get ((C I).args y) (args.map (ee w.heap.size))/\(C I).res y= .bool b):Calls Tryz.prog f args.toArray w fun e w'=>e= .returned (.bool b)/\Below w.heap.size w w':=by
 letI:Inhabited aL:=⟨⟨True,#[]⟩⟩
 obtain⟨y,h1,h2,h3⟩:=hy inferInstance;refine Calls.mono (lg bD.ok (hc inferInstance) hfn hb h1 h2 (dX.pj rfl _)) ?_;rintro e w' ⟨v,rfl,hv,hbel,_⟩;rw[h3]at hv
 cases hv;exact⟨rfl,hbel⟩
section
variable [Inhabited aL]
def Lr (p:World->Prop):Prop:=∀w,dX w->p w
end
structure wL (S:Nat->Prop) (w w':World):Prop where
 os:w'.os=w.os
 tape:w'.tape=w.tape
 output:w'.output=w.output
 size:w.heap.size<=w'.heap.size
 block:∀k,k<w.heap.size->¬S k->w'.heap[k]? =w.heap[k]?
end Go.Proofs
namespace Go.Proofs
open Go Go.Am Go.RowKit Go.Sy
end Go.Proofs
