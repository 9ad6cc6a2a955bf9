/- Part 11: an evaluator, proved sound, and its use at this seat; no condition. -/
import Derived.IntWalk
import Derived.WalkKit
import Derived.Deep.RegionWith
import Derived.Maps.RangeWalk
import Derived.Shelf.SlIter.Collect
import Derived.OwnWalk
import Derived.Deep.LoopGhost
import Derived.Lib.Walk
import Derived.Lib.SliceRun
import Derived.Shelf.SlSortCmp.WholeK
import Derived.Test.YtggljmdeadplkaaGreatProg
import Derived.Deep.MidRow
import Derived.Test.YtggljmdeadplkaaGreatP7
import Derived.Test.YtggljmdeadplkaaGreatP8
import Derived.Test.YtggljmdeadplkaaGreatP10
set_option linter.unusedSimpArgs false
set_option linter.unusedVariables false
set_option linter.unusedSectionVars false
set_option linter.deprecated false
set_option maxRecDepth 100000
set_option maxHeartbeats 4000000
namespace Go.Proofs
open Go Go.Am Go.RowKit Go.Sy Go.Gm
section
def kG (w w':World):Prop:=∀(b:Nat) (arr:Array Value) (e:TypeId) (fz:Nat×Nat),w.heap[b]? =some (.cells arr e fz)->w'.heap[b]? =some (.cells arr e fz)
theorem Ja [Inhabited aL] {w w':World} {p:Nat->Prop} {g:Bool} (hc:kG w w') {s:SV} {v:Value} (h:Rd w p g s v):Rd w' p g s v:=by
 induction h with
 |bool b=>exact .bool b
 |int k n=>exact .int k n
 |str s=>exact .str s
 |aF=>exact .aF
 |wp a=>exact .wp a
 |nils=>exact .nils
 |aW=>exact .aW
 |aZ=>exact .aZ
 |any v=>exact .any v
 |fn h v=>exact .fn h v
 |ch h v=>exact .ch h v
 |gB h0=>exact .gB h0
 |bR h h0 a c=>exact .bR h h0 a c
 |ax b off cap arr e fz sz u hp hb hs hl hn hcc h1 _ ih=>exact .ax b off cap arr e fz sz u hp (hc _ _ _ _ hb) hs hl hn hcc h1 ih
 |agg h1 _ ih=>exact .agg h1 ih
 |bg h1 _ ih=>exact .bg h1 ih
def eM (w:World) (l:List bp) (v:Value):Prop:=(l=[]/\ ∃a c,v= .slice a 0 c)\/ ∃b off cap arr e fz,v= .slice (some ⟨b,off,none⟩) l.length cap/\w.heap[b]? =some (.cells arr e fz)/\l.length<=cap/\off+l.length*3<=arr.size/\
 ∀i (h:i<l.length),arr[off+i*3]? =some (.int .i64 l[i].dev)/\arr[off+i*3+1]? =some (.int .i64 l[i].inc)/\arr[off+i*3+2]? =some (.int .i64 l[i].seq)
theorem nX [Inhabited aL] {w:World} {p:Nat->Prop} {g:Bool} {k:IntKind} {n:Int} {v:Value} (h:Rd w p g (.int k n) v):v= .int k n:=by cases h;rfl
theorem eM.cells {w w':World} (hc:kG w w') {l:List bp} {v:Value} (h:eM w l v):eM w' l v:=by
 rcases h with h|⟨b,off,cap,arr,e,fz,h1,h2,h3⟩
 . exact .inl h
 . exact .inr ⟨b,off,cap,arr,e,fz,h1,hc _ _ _ _ h2,h3⟩
abbrev lM (s:Bs):Value:= .string ⟨s.toArray⟩
def LM (e:aR) (v:Value):Value:= .agg #[.int .i64 e.dot.dev, .int .i64 e.dot.inc, .int .i64 e.dot.seq, .int .i64 e.dR.wall, .int .i64 e.dR.count, .int .i64 e.dR.dev, .int .i64 e.kind,lM e.key.name,lM e.key.domain,lM e.key.path,
 lM e.ab.value, .bool e.ab.ay, .bool e.ab.aT, .bool e.ab.aD, .bool e.ab.persistent, .int .i64 e.ab.aM, .int .i64 e.ab.aq, .int .i64 e.ab.access,v]
def qz (w:World) (u:Value) (e:aR):Prop:=∃v,u=LM e v/\eM w e.over v
theorem qz.cells {w w':World} (hc:kG w w') {u:Value} {e:aR} (h:qz w u e):qz w' u e:=by
 obtain⟨v,h1,h2⟩:=h;exact⟨v,h1,h2.cells hc⟩
def LN (x:Value×aR):Value:=x.1
def LL (x:Nat×DL):Value:= .map (some x.1)
structure EM (w:World) (n b bk ba bd bs bv:Nat) (G:kj):Prop where
 c0:w.cell? ⟨b,0,none⟩=some (.map (some bk))
 c1:w.cell? ⟨b,1,none⟩=some (.map (some ba))
 c2:w.cell? ⟨b,2,none⟩=some (.map (some bd))
 c3:w.cell? ⟨b,3,none⟩=some (.pointer (some ⟨bs,0,none⟩))
 cv:w.cell? ⟨bs,0,none⟩=some (.map (some bv))
 mkp:gd w bk l5 LN G.kept
 ma:gd w ba tq LL G.alive
 md:gd w bd l5 l6 G.dead
 mv:gd w bv tp l6 G.vec
 mi:∀x∈G.alive,gd w x.2.1 l5 l6 x.2.2
 nd:(bk::ba::bd::bv::G.alive.map (·.2.1)).Nodup
 low:∀j∈b::bs::bk::ba::bd::bv::G.alive.map (·.2.1),n<=j
 ev:∀x∈G.kept,qz w x.2.1 x.2.2
def Lc (w:World) (j:Nat):Prop:=∃es clk,w.heap[j]? =some (.map es clk)
section
variable {K V:Type} [DecidableEq K]
end
theorem rI {w:World} {b o:Nat} {v:Value} (h:w.cell? ⟨b,o,none⟩=some v):b<w.heap.size:=by
 unfold World.cell? at h
 cases e:w.heap[b]? with
 |none=>simp[e]at h
 |some o=>exact(Ak.1 e).1
theorem nR {w w':World} {b o:Nat} {v:Value} (h:w.cell? ⟨b,o,none⟩=some v) (e:w'.heap[b]? =w.heap[b]?):w'.cell? ⟨b,o,none⟩=some v:=by
 unfold World.cell? at h⊢;rw[e];exact h
theorem wL.cells {S:Nat->Prop} {w w':World} (h:wL S w w') (hS:∀k,S k->Lc w k):kG w w':=by
 intro b arr e fz hb;rw[h.block b (Ak.1 hb).1 ?_]
 . exact hb
 . intro hs;obtain⟨es,clk,hm⟩:=hS b hs;rw[hb]at hm;cases hm
theorem nh {w w':World} (h:Below w.heap.size w w'):kG w w':=fun b arr e fz hb=>by
 rw[h.block b (Ak.1 hb).1];exact hb
section
variable {w w':World} {n b bk ba bd bs bv:Nat} {G:kj}
end
end
section
section
variable {K V:Type} [DecidableEq K]
end
section
variable {w w':World} {n b bk ba bd bs bv:Nat} {G:kj}
end
end
end Go.Proofs
namespace Go.Gm
open Go Go.RowKit Go.Maps Go.Proofs Go.ChangeMaps
section
variable {P:Program} {K V:Type} [DecidableEq K]
structure IterIs (w:World) (r b:Nat) (enc:K->Value) (encV:V->Value) (L ss left:List (K×V)):Prop where
 ex:∃es clk seen,w.heap[b]? =some (.map es clk)/\sX enc encV es.toList L/\(es.toList.map (·.born)).Pairwise (· < ·)/\(∀e∈es.toList,e.born<clk)/\w.heap[r]? =some (.mapIter (some b) clk seen clk)/\sX enc encV (leftOf es seen).toList left
 perm:(ss++left).Perm L
section
variable (w:World) {ops:Array Oper} {rest:List Oper} {o:Oper} {a:Act} {Q:Exit->Act->World->Prop}
end
end
end Go.Gm
namespace Go.Proofs
open Go Go.Am Go.RowKit Go.Sy Go.Gm Go.Maps Go.Sort
section
section
variable {K V:Type} [DecidableEq K] {F:Fence} {n:Nat} {P:Program} (w:World) {ops:Array Oper} {rest:List Oper} {o:Oper} {a:Act} {Q:Exit->Act->World->Prop}
end
end
end Go.Proofs
namespace Go.Proofs
open Go Go.Am Go.RowKit Go.Sy Go.Gm
section
section
variable [Inhabited aL]
end
def yR:List bp->List Value
 |[]=>[]
 |d::l=> .int .i64 d.dev:: .int .i64 d.inc:: .int .i64 d.seq::yR l
end
end Go.Proofs
namespace Go.Proofs
open Go Go.Am Go.RowKit Go.Sy Go.Gm Go.Maps Go.Sort
def gJ:Code->Option (Code×Code)
 | .rangeFunc _ _ a b=>some (a,b)
 | .seq a b=>match gJ a with
  |some x=>some x
  |none=>gJ b
 | .block _ c=>gJ c
 | .scope c=>gJ c
 | .loop c=>gJ c
 |_=>none
noncomputable def EO:Code:=((Tryz.f204.body.bind gJ).getD (.skip, .skip)).1
noncomputable def EP:Code:=((Tryz.f204.body.bind gJ).getD (.skip, .skip)).2
noncomputable def apRec (fn:FuncId) (sv:Value) (Bs D:Nat) (st:LoopState) (hU:Option Code):Loop:=
 {state:=st,pending:=hU,fn,tmps:=#[.slice none 0 0,sv, .pointer (some ⟨Bs,0,none⟩),undef, .slice none 0 0,undef,sv,undef,undef,undef,undef,undef,undef],params:=#[7],assign:=EO,body:=EP,defers:=D}
structure ApD (w0:World) (fn:FuncId) (sv:Value) (Bs l D:Nat) (ss:List bp) (W:World):Prop where
 box:∃v,W.heap[Bs]? =some (.cells #[v] 36 (0,0))/\W.ownsRow w0.heap.size 71 3 v ss.length (yR ss)
 L:W.heap[l]? =some (.loop (apRec fn sv Bs D .ready none))
 K:W.heap[D]? =some (.deferred (some []))
 below:Below w0.heap.size w0 W
end Go.Proofs
namespace Go.Proofs
open Go.Shelf
end Go.Proofs
namespace Go.Proofs
open Go Go.Am Go.RowKit Go.Sy Go.Gm Go.Maps Go.Sort Go.Shelf
section
section
variable [Inhabited aL]
end
end
section
section
variable [Inhabited aL]
end
end
end Go.Proofs
namespace Go.Gm
open Go Go.RowKit Go.Maps Go.Proofs Go.ChangeMaps
section
variable {P:Program} {K V:Type} [DecidableEq K]
end
end Go.Gm
namespace Go.Proofs
open Go Go.Am Go.RowKit Go.Sy Go.Gm Go.Maps Go.Sort Go.Shelf
end Go.Proofs
namespace Go.Proofs
open Go Go.Am Go.RowKit Go.Sy Go.Gm
end Go.Proofs
