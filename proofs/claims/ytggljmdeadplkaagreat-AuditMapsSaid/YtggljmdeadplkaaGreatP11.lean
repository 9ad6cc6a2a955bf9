/- Part 11: an evaluator, proved sound, and its use at this seat; no condition. -/
import Derived.IntWalk
import Derived.WalkKit
import Derived.Deep.RegionWith
import Derived.Maps.RangeWalk
import Derived.Shelf.SlIter.Collect
import Derived.OwnWalk
import Derived.Deep.LoopGhost
import Derived.Lib.Walk
import Derived.Lib.SliceRun
import Derived.Shelf.SlSortCmp.WholeK
import Derived.Test.YtggljmdeadplkaaGreatProg
import Derived.Deep.MidRow
import Derived.Test.YtggljmdeadplkaaGreatP7
import Derived.Test.YtggljmdeadplkaaGreatP8
import Derived.Test.YtggljmdeadplkaaGreatP10
set_option linter.unusedSimpArgs false
set_option linter.unusedVariables false
set_option linter.unusedSectionVars false
set_option linter.deprecated false
set_option maxRecDepth 100000
set_option maxHeartbeats 4000000
namespace Go.Proofs
open Go Go.Am Go.RowKit Go.Sy Go.Gm
theorem GX (a i n:Int) (w:World):Calls Tryz.prog 103 #[.agg #[.int .i64 a, .int .i64 i, .int .i64 n]] w fun e w'=>e= .returned (.bool (eB ⟨a,i,n⟩))/\Below w.heap.size w w':=
 qo (C:=fun I=>rW eB) (fun I=> @GM I) (hfn:=rfl) (hb:=rfl) (args:=[.agg #[.int .i64 a, .int .i64 i, .int .i64 n]]) (fun I=>⟨⟨a,i,n⟩,trivial,⟨rfl,fun j c v hc hv=>by
  match j with
  |0=>cases hc;cases hv;exact xF [a,i,n]
  |_+1=>cases hc⟩,rfl⟩)
theorem K5 {a i n:Int} (hd:eB ⟨a,i,n⟩=true):IntKind.i64.wrap (n - 1)=n - 1:=by
 letI:Inhabited aI:=⟨⟨True,#[]⟩⟩
 have h:bA 1 n=true/\bA n 4294967296=true:=by
  unfold eB at hd;simp only[Ad]at hd;exact⟨hd.1.2,hd.2⟩
 rw[eI,eI,Ae,Ae]at h;exact IntWalk.i64_in _ (by omega)
theorem QZ {w:World} {bs bv:Nat} {L:List ((Int×Int)×Int)} (hs:w.cell? ⟨bs,0,none⟩=some (.map (some bv))) (hm:aw w bv dN cz L) (a i n:Int) (hne:bs≠bv) (hd:eB ⟨a,i,n⟩=true) (hlt:(az L (a,i)).getD 0=n - 1):
    Calls Tryz.prog 64 #[.pointer (some ⟨bs,0,none⟩), .agg #[.int .i64 a, .int .i64 i, .int .i64 n]] w fun e w'=>e= .returned (.bool true)/\dZ (· =bv) w w'/\aw w' bv dN cz (bN L (a,i) n):=by
  have hc:=fun w=>GX a i n w
  rw[hd]at hc;have hbv:bv<w.heap.size:=by
    obtain⟨es,clk,h,_⟩:=hm.at_;exact(Ac.1 h).1
  have hbs:bs<w.heap.size:=by
    unfold World.cell? at hs
    cases h:w.heap[bs]? with
    |none=>simp[h]at hs
    |some o=>exact(Ac.1 h).1
  go_enter Tryz.func64,Tryz.ntmps64
  go_wp2_with fail
  have hq:Below w.heap.size w (w.alloc (.cells #[.int .i64 a, .int .i64 i, .int .i64 n] 71)).drew:=((Below.refl w.heap.size w).alloc (Aj _) _).drew;have hsz:(w.alloc (.cells #[.int .i64 a, .int .i64 i, .int .i64 n] 71)).drew.heap.size=w.heap.size+1:=by simp
  have hn0:(w.alloc (.cells #[.int .i64 a, .int .i64 i, .int .i64 n] 71)).drew.cell? ⟨w.heap.size,0,none⟩=some (.int .i64 a):=by simp
  have hn1:(w.alloc (.cells #[.int .i64 a, .int .i64 i, .int .i64 n] 71)).drew.cell? ⟨w.heap.size,1,none⟩=some (.int .i64 i):=by simp
  have hn2:(w.alloc (.cells #[.int .i64 a, .int .i64 i, .int .i64 n] 71)).drew.cell? ⟨w.heap.size,2,none⟩=some (.int .i64 n):=by simp
  have hw:IntKind.i64.wrap (n - 1)=n - 1:=K5 hd;have hge:∀{x:World} (_:x.cell? ⟨bs,0,none⟩=some (.map (some bv))) (_:aw x bv dN cz L),Calls Tryz.prog 62 #[.pointer (some ⟨bs,0,none⟩), .agg #[.int .i64 a, .int .i64 i]] x fun e w'=>e= .returned (.int .i64 (n - 1))/\Below x.heap.size x w':=fun h1 h2=>by
    have:=jX h1 h2 a i;rw[hlt]at this;exact this
  go_region_with (first
   |(go_at_call 103;refine(hc _).mono ?_;rintro e w1 ⟨rfl,hb⟩;have hq1:=hq.trans (hb.mono (by rw[hsz];omega));have hs1:w1.cell? ⟨bs,0,none⟩=some (.map (some bv)):=(hq1.cell hbs).trans hs;have hm1:aw w1 bv dN cz L:=hm.same (hq1.block bv hbv);have hz1:=hb.size;have hb0:=(hb.cell (p:=⟨w.heap.size,0,none⟩) (by rw[hsz];show w.heap.size<_;omega)).trans hn0;have hb1:=(hb.cell (p:=⟨w.heap.size,1,none⟩) (by rw[hsz];show w.heap.size<_;omega)).trans hn1;have hb2:=(hb.cell (p:=⟨w.heap.size,2,none⟩) (by rw[hsz];show w.heap.size<_;omega)).trans hn2)
   |(go_at_call 62;refine(hge (by assumption) (by assumption)).mono ?_;rintro e w2 ⟨rfl,hc2⟩;have hq2:=hq1.trans (hc2.mono (by rw[hsz]at hz1;omega));have hs2:w2.cell? ⟨bs,0,none⟩=some (.map (some bv)):=(hq2.cell hbs).trans hs;have hm2:aw w2 bv dN cz L:=hm.same (hq2.block bv hbv);have hc0:=(hc2.cell (p:=⟨w.heap.size,0,none⟩) (by rw[hsz]at hz1;show w.heap.size<_;omega)).trans hb0;have hc1:=(hc2.cell (p:=⟨w.heap.size,1,none⟩) (by rw[hsz]at hz1;show w.heap.size<_;omega)).trans hb1;have hc2':=(hc2.cell (p:=⟨w.heap.size,2,none⟩) (by rw[hsz]at hz1;show w.heap.size<_;omega)).trans hb2)
   |(go_at_call 106;refine(PA hs2 hm2 a i n hne hd (by omega)).mono ?_;rintro e w3 ⟨rfl,hbut,hm3⟩))
  all_goals (go_wp2)
  all_goals (go_ret)
  all_goals (exact⟨rfl,(jY hq2).trans hbut,hm3⟩)
section
def ic (w w':World):Prop:=∀(b:Nat) (arr:Array Value) (e:TypeId) (fz:Nat×Nat),w.heap[b]? =some (.cells arr e fz)->w'.heap[b]? =some (.cells arr e fz)
def cy (w:World) (l:List ak) (v:Value):Prop:=(l=[]/\ ∃a c,v= .slice a 0 c)\/ ∃b off cap arr e fz,v= .slice (some ⟨b,off,none⟩) l.length cap/\w.heap[b]? =some (.cells arr e fz)/\l.length<=cap/\off+l.length*3<=arr.size/\
 ∀i (h:i<l.length),arr[off+i*3]? =some (.int .i64 l[i].dev)/\arr[off+i*3+1]? =some (.int .i64 l[i].inc)/\arr[off+i*3+2]? =some (.int .i64 l[i].seq)
theorem iz [Inhabited aI] {w:World} {p:Nat->Prop} {g:Bool} {k:IntKind} {n:Int} {v:Value} (h:Rd w p g (.int k n) v):v= .int k n:=by cases h;rfl
theorem rJ [Inhabited aI] {w:World} {p:Nat->Prop} {g:Bool} {s:Bs} {v:Value} (h:Rd w p g (.str s) v):v= .string ⟨s.toArray⟩:=by cases h;rfl
theorem rA [Inhabited aI] {w:World} {p:Nat->Prop} {g:Bool} {b:Bool} {v:Value} (h:Rd w p g (.bool b) v):v= .bool b:=by cases h;rfl
theorem tR [Inhabited aI] {w:World} {p:Nat->Prop} {g:Bool} {l:List ak} {v:Value} (h:Rd w p g (cf l) v):cy w l v:=by
 unfold cf at h
 cases h with
 |jc h0=>exact .inl ⟨Bj.1 h0,_,_,rfl⟩
 |bT h h0 a c=>exact .inl ⟨Bj.1 h0,_,_,rfl⟩
 |aH b off cap arr e fz sz u hp hb hs hl hn hc h1 h2=>
  by_cases h0:l=[]
  . subst h0;exact .inl ⟨rfl,_,_,rfl⟩
  . have hsz:sz=3:=by
     obtain⟨x,l',rfl⟩:=Er h0;exact(hn 0 x rfl).symm
    subst hsz;refine .inr ⟨b,off,cap,arr,e,fz,rfl,hb,hc,hl,fun i hi=>?_⟩;have hx:l[i]? =some l[i]:=Af hi;have e0:=h1 i _ 0 _ hx rfl;have e1:=h1 i _ 1 _ hx rfl;have e2:=h1 i _ 2 _ hx rfl;rw[iz (h2 i _ 0 _ hx rfl)]at e0;rw[iz (h2 i _ 1 _ hx rfl)]at e1;rw[iz (h2 i _ 2 _ hx rfl)]at e2;exact⟨e0,e1,e2⟩
theorem xu [Inhabited aI] {w:World} {l:List ak} {v:Value} (h:cy w l v):Rd w (fun _=>True) true (cf l) v:=by
 unfold cf;rcases h with⟨rfl,a,c,rfl⟩|⟨b,off,cap,arr,e,fz,rfl,hb,hc,hl,hi⟩
 . exact .bT rfl rfl a c
 . refine .aH b off cap arr e fz 3 (fun i j=>(arr[off+i*3+j]?).getD (.bool false)) trivial hb (by decide) hl (fun _ _ _=>rfl) hc (fun i x j v hx hv=>?_) (fun i x j v hx hv=>?_)
   all_goals
    have hil:i<l.length:=(Ah.1 hx).1;have hxe:l[i]=x:=(Ah.1 hx).2;obtain⟨e0,e1,e2⟩:=hi i hil;rw[hxe]at e0 e1 e2;have hj:j<3:=(Ah.1 hv).1;match j,hj with
    |0,_=>cases hv;first|exact e0.trans (by rw[BJ,e0];rfl)|(simp only[BJ,e0,Bl];exact .int _ _)
    |1,_=>cases hv;first|exact e1.trans (by rw[e1];rfl)|(simp only[e1,Bl];exact .int _ _)
    |2,_=>cases hv;first|exact e2.trans (by rw[e2];rfl)|(simp only[e2,Bl];exact .int _ _)
theorem cy.cells {w w':World} (hc:ic w w') {l:List ak} {v:Value} (h:cy w l v):cy w' l v:=by
 rcases h with h|⟨b,off,cap,arr,e,fz,h1,h2,h3⟩
 . exact .inl h
 . exact .inr ⟨b,off,cap,arr,e,fz,h1,hc _ _ _ _ h2,h3⟩
abbrev da (s:Bs):Value:= .string ⟨s.toArray⟩
def fM (e:ae) (v:Value):Value:= .agg #[.int .i64 e.dot.dev, .int .i64 e.dot.inc, .int .i64 e.dot.seq, .int .i64 e.bY.wall, .int .i64 e.bY.count, .int .i64 e.bY.dev, .int .i64 e.kind,da e.key.name,da e.key.domain,da e.key.path,
 da e.aa.value, .bool e.aa.aR, .bool e.aa.bG, .bool e.aa.aS, .bool e.aa.persistent, .int .i64 e.aa.bp, .int .i64 e.aa.aG, .int .i64 e.aa.access,v]
def fC (w:World) (u:Value) (e:ae):Prop:=∃v,u=fM e v/\cy w e.over v
theorem fC.cells {w w':World} (hc:ic w w') {u:Value} {e:ae} (h:fC w u e):fC w' u e:=by
 obtain⟨v,h1,h2⟩:=h;exact⟨v,h1,h2.cells hc⟩
def iU (x:Value×ae):Value:=x.1
def qz (x:Nat×DL):Value:= .map (some x.1)
structure cB (w:World) (n b bk ba bd bs bv:Nat) (G:bC):Prop where
 c0:w.cell? ⟨b,0,none⟩=some (.map (some bk))
 c1:w.cell? ⟨b,1,none⟩=some (.map (some ba))
 c2:w.cell? ⟨b,2,none⟩=some (.map (some bd))
 c3:w.cell? ⟨b,3,none⟩=some (.pointer (some ⟨bs,0,none⟩))
 cv:w.cell? ⟨bs,0,none⟩=some (.map (some bv))
 gp:aw w bk aX iU G.kept
 ma:aw w ba eL qz G.alive
 md:aw w bd aX cz G.dead
 mv:aw w bv dN cz G.vec
 mi:∀x∈G.alive,aw w x.2.1 aX cz x.2.2
 nd:(bk::ba::bd::bv::G.alive.map (·.2.1)).Nodup
 low:∀j∈b::bs::bk::ba::bd::bv::G.alive.map (·.2.1),n<=j
 ev:∀x∈G.kept,fC w x.2.1 x.2.2
def dx (bk ba bd bv:Nat) (G:bC) (j:Nat):Prop:=j∈bk::ba::bd::bv::G.alive.map (·.2.1)
def jO (w:World) (j:Nat):Prop:=∃es clk,w.heap[j]? =some (.map es clk)
section
variable {K V:Type} [DecidableEq K]
theorem _root_.Go.Gm.aw.isMap {w:World} {b:Nat} {enc:K->Value} {encV:V->Value} {L:List (K×V)} (h:aw w b enc encV L):jO w b:=by
 obtain⟨es,clk,h,_⟩:=h.at_;exact⟨es,clk,h⟩
theorem _root_.Go.Gm.aw.lt {w:World} {b:Nat} {enc:K->Value} {encV:V->Value} {L:List (K×V)} (h:aw w b enc encV L):b<w.heap.size:=by
 obtain⟨es,clk,h,_⟩:=h.at_;exact(Ac.1 h).1
theorem _root_.Go.Gm.aw.repr {w:World} {b:Nat} {enc:K->Value} {encV:V->Value} {L L':List (K×V)} (h:aw w b enc encV L) (hk:L'.map (·.1)=L.map (·.1)) (hv:L'.map (fun x=>(enc x.1,encV x.2))=L.map fun x=>(enc x.1,encV x.2)):aw w b enc encV L':=by
 obtain⟨⟨es,clk,h1,h2,h3⟩,h4⟩:=h;exact⟨⟨es,clk,h1,h2.trans hv.symm,h3⟩,by rw[hk];exact h4⟩
end
theorem iy {w:World} {b o:Nat} {v:Value} (h:w.cell? ⟨b,o,none⟩=some v):b<w.heap.size:=by
 unfold World.cell? at h
 cases e:w.heap[b]? with
 |none=>simp[e]at h
 |some o=>exact(Ac.1 e).1
theorem sL {w:World} {b o:Nat} {v:Value} (h:w.cell? ⟨b,o,none⟩=some v):¬jO w b:=by
 rintro⟨es,clk,e⟩;unfold World.cell? at h;simp[e]at h
theorem eJ {w w':World} {b o:Nat} {v:Value} (h:w.cell? ⟨b,o,none⟩=some v) (e:w'.heap[b]? =w.heap[b]?):w'.cell? ⟨b,o,none⟩=some v:=by
 unfold World.cell? at h⊢;rw[e];exact h
theorem dZ.cells {S:Nat->Prop} {w w':World} (h:dZ S w w') (hS:∀k,S k->jO w k):ic w w':=by
 intro b arr e fz hb;rw[h.block b (Ac.1 hb).1 ?_]
 . exact hb
 . intro hs;obtain⟨es,clk,hm⟩:=hS b hs;rw[hb]at hm;cases hm
theorem cA {w w':World} (h:Below w.heap.size w w'):ic w w':=fun b arr e fz hb=>by
 rw[h.block b (Ac.1 hb).1];exact hb
section
variable {w w':World} {n b bk ba bd bs bv:Nat} {G:bC}
theorem cB.maps (h:cB w n b bk ba bd bs bv G):∀k,dx bk ba bd bv G k->jO w k:=by
 intro k hk;unfold dx at hk;simp only[Al,Ar]at hk;rcases hk with rfl|rfl|rfl|rfl|⟨x,hx,rfl⟩
 . exact Go.Gm.aw.isMap h.gp
 . exact Go.Gm.aw.isMap h.ma
 . exact Go.Gm.aw.isMap h.md
 . exact Go.Gm.aw.isMap h.mv
 . exact Go.Gm.aw.isMap (h.mi x hx)
theorem cB.bn (h:cB w n b bk ba bd bs bv G) (hc:ic w w') (hm:∀k,dx bk ba bd bv G k->w'.heap[k]? =w.heap[k]?):cB w' n b bk ba bd bs bv G:=by
 have cc:∀{b o:Nat} {v:Value},w.cell? ⟨b,o,none⟩=some v->w'.cell? ⟨b,o,none⟩=some v:=by
  intro b o v hv;refine eJ hv ?_;unfold World.cell? at hv
  cases e:w.heap[b]? with
  |none=>simp[e]at hv
  |some q=>
   cases q with
   |cells arr t fz=>exact hc _ _ _ _ e
   |_=>simp[e]at hv
 refine⟨cc h.c0,cc h.c1,cc h.c2,cc h.c3,cc h.cv,h.gp.same (hm _ ?_),h.ma.same (hm _ ?_),h.md.same (hm _ ?_),h.mv.same (hm _ ?_),fun x hx=>(h.mi x hx).same (hm _ ?_),h.nd,h.low,fun x hx=>(h.ev x hx).cells hc⟩
 all_goals (unfold dx;simp)
 exact .inr (.inr (.inr (.inr ⟨x.1,x.2.2,hx⟩)))
theorem cB.below (h:cB w n b bk ba bd bs bv G) (hb:Below w.heap.size w w'):cB w' n b bk ba bd bs bv G:=
 h.bn (cA hb) fun k hk=>by
  obtain⟨es,clk,hm⟩:=h.maps k hk;exact hb.block k (Ac.1 hm).1
theorem sX {j:Nat} {o:Obj} (hj:jO w j):ic w (World.aJ w j o):=by
 intro b arr e fz hb;obtain⟨es,clk,hm⟩:=hj;rw[kH hm,Ai (fun e=>by subst e;rw[hb]at hm;cases hm)];exact hb
theorem cB.kT (h:cB w n b bk ba bd bs bv G) {j:Nat} (hj:dx bk ba bd bv G j) {o:Obj} {G':bC}
  (hk:aw (World.aJ w j o) bk aX iU G'.kept) (ha:aw (World.aJ w j o) ba eL qz G'.alive) (hd:aw (World.aJ w j o) bd aX cz G'.dead) (hv:aw (World.aJ w j o) bv dN cz G'.vec)
  (hi:∀x∈G'.alive,aw (World.aJ w j o) x.2.1 aX cz x.2.2) (hnd:(bk::ba::bd::bv::G'.alive.map (·.2.1)).Nodup) (hlow:∀x∈G'.alive,n<=x.2.1) (hev:∀x∈G'.kept,fC w x.2.1 x.2.2):cB (World.aJ w j o) n b bk ba bd bs bv G':=by
 have hc:=sX (o:=o) (h.maps j hj);have cc:∀{b o':Nat} {v:Value},w.cell? ⟨b,o',none⟩=some v->(World.aJ w j o).cell? ⟨b,o',none⟩=some v:=by
  intro b o' v hcell;refine eJ hcell ?_;obtain⟨es,clk,hm⟩:=h.maps j hj;rw[kH hm,Ai (fun e:b=j=>sL hcell (by rw[e];exact⟨es,clk,hm⟩))]
 refine⟨cc h.c0,cc h.c1,cc h.c2,cc h.c3,cc h.cv,hk,ha,hd,hv,hi,hnd,fun k hk'=>?_,fun x hx=>(hev x hx).cells hc⟩;simp only[Al,Ar]at hk';rcases hk' with rfl|rfl|rfl|rfl|rfl|rfl|⟨x,hx,rfl⟩
 all_goals first|exact hlow x hx|(refine h.low _ ?_;simp)
theorem cB.ne (h:cB w n b bk ba bd bs bv G):bk≠ba/\bk≠bd/\bk≠bv/\ba≠bd/\ba≠bv/\bd≠bv:=by
 have:=h.nd;simp only[Dj,Al,not_or]at this;exact⟨this.1.1,this.1.2.1,this.1.2.2.1,this.2.1.1,this.2.1.2.1,this.2.2.1.1⟩
theorem cB.pA (h:cB w n b bk ba bd bs bv G) {x:bg×(Nat×DL)} (hx:x∈G.alive):x.2.1≠bk/\x.2.1≠ba/\x.2.1≠bd/\x.2.1≠bv:=by
 have:=h.nd;simp only[Dj,Al,not_or,Ar,not_exists,not_and]at this;exact⟨this.1.2.2.2 x hx,this.2.1.2.2 x hx,this.2.2.1.2 x hx,this.2.2.2.1 x hx⟩
theorem fi {j i:Nat} {o:Obj} (h:jO w j) (hne:i≠j):(World.aJ w j o).heap[i]? =w.heap[i]? :=by
 obtain⟨es,clk,hm⟩:=h;rw[kH hm,Ai hne]
end
end
theorem QB (w:World):Calls Tryz.prog 59 #[] w fun e w'=>e= .returned (.pointer (some ⟨w.heap.size+1,0,none⟩))/\w'=(w.alloc (.map #[] 0)).alloc (.cells #[.map (some w.heap.size)] 156):=by
 have hmm:= @run_makeMap Tryz.prog;go_enter Tryz.func59,Tryz.ntmps59
 go_wp2;go_ret;exact⟨by simp,rfl⟩
theorem kJ (w:World) (o:Obj) (i:Nat):(w.alloc o).heap[i]? =if i=w.heap.size then some o else w.heap[i]? :=by
 show(w.heap.push o)[i]? =_
 rw[Array.getElem?_push]
theorem rK (w:World) (arr:Array Value) (e:TypeId) (fz:Nat×Nat) (i o:Nat):(w.alloc (.cells arr e fz)).cell? ⟨i,o,none⟩=if i=w.heap.size then arr[o]? else w.cell? ⟨i,o,none⟩:=by
 unfold World.cell?
 simp only[kJ];by_cases h:i=w.heap.size
 . simp[h]
 . simp[h]
theorem oc {K V:Type} [DecidableEq K] {w:World} {b:Nat} {enc:K->Value} {encV:V->Value} (h:w.heap[b]? =some (.map #[] 0)):aw w b enc encV ([]:List (K×V)):=
 ⟨⟨#[],0,h,by simp[fV],by simp,by simp⟩,by simp⟩
theorem Qx (w:World):Calls Tryz.prog 29 #[] w fun e w'=>∃b bk ba bd bs bv,e= .returned (.pointer (some ⟨b,0,none⟩))/\cB w' w.heap.size b bk ba bd bs bv ⟨[],[],[],[]⟩/\Below w.heap.size w w':=by
 have hmm:= @run_makeMap Tryz.prog;go_enter Tryz.func29,Tryz.ntmps29
 go_wp2_with (go_at_call 59;refine(QB _).mono ?_;rintro e w1 ⟨rfl,rfl⟩)
 go_ret;refine⟨w.heap.size+5,w.heap.size,w.heap.size+1,w.heap.size+2,w.heap.size+4,w.heap.size+3,rfl,?_,?_⟩
 . refine⟨by simp[rK],by simp[rK],by simp[rK],by simp[rK],by simp[rK],oc (by simp only[kJ,World.size_alloc];repeat (first|rfl|rw[Ai (by omega)]);try simp;try omega),oc (by simp only[kJ,World.size_alloc];repeat (first|rfl|rw[Ai (by omega)]);try simp;try omega),oc (by simp only[kJ,World.size_alloc];repeat (first|rfl|rw[Ai (by omega)]);try simp;try omega),oc (by simp only[kJ,World.size_alloc];repeat (first|rfl|rw[Ai (by omega)]);try simp;try omega),fun x hx=>(by cases hx),by simp,by simp,fun x hx=>(by cases hx)⟩
 . refine Below.alloc (Below.alloc (Below.alloc (Below.alloc (Below.alloc (Below.alloc (Below.refl _ _) ?_ _) ?_ _) ?_ _) ?_ _) ?_ _) ?_ _
   all_goals (simp;try omega)
theorem Tryz.room {w:World} {n b bk ba bd bs bv:Nat} {G:bC} (h:cB w n b bk ba bd bs bv G) (hl:G.kept.length<=100000):Calls Tryz.prog 63 #[.pointer (some ⟨b,0,none⟩), .int .i64 1] w fun e w'=>e= .returned (.bool (decide (1<=2048 - (G.kept.length:Int))))/\w'=w:=by
 obtain⟨es,clk,hb,hsz⟩:=h.gp.len;have c0:=h.c0;have hlen:(Builtin.len_ #[83] 3 #[.map (some bk)]).run Tryz.prog w= .ok (.int .i64 G.kept.length) w:=by
  rw[run_len_map w 83 3 bk es clk (by simp[Program.mapKeyOf,Program.mapElemOf,Tryz.underlying83]) hb,hsz];rfl
 have hwr:wrap64 (2048 - (G.kept.length:Int))=2048 - (G.kept.length:Int):=by
  exact IntWalk.wrap64_in _ (by omega)
 clear h hb;go_enter Tryz.func63,Tryz.ntmps63
 go_wp2;go_ret;exact⟨rfl,rfl⟩
theorem QU {w:World} {bd:Nat} {L:DL} (hm:aw w bd aX cz L) (d:ak):(Instr.lookup 107 (.map (some bd)) (aX d) true).run Tryz.prog w= .ok (.tuple #[.int .i64 ((az L d).getD 0), .bool (az L d).isSome]) w:=by
 rw[hm.lookup fJ Tryz.underlying107 (rY w) d true]
 cases az L d<;>rfl
theorem Tryz.dead {w:World} {n b bk ba bd bs bv:Nat} {G:bC} (h:cB w n b bk ba bd bs bv G) (d:ak):Calls Tryz.prog 66 #[.pointer (some ⟨b,0,none⟩),aX d] w fun e w'=>e= .returned (.bool (az G.dead d).isSome)/\Below w.heap.size w w':=by
 have hb:Below w.heap.size w (w.alloc (.cells #[.int .i64 d.dev, .int .i64 d.inc, .int .i64 d.seq] 71)).drew:=((Below.refl w.heap.size w).alloc (Aj _) _).drew;have h1:=h.below hb;have hlk:=QU h1.md d;have c2:=h1.c2;unfold aX at hlk⊢;clear h h1;go_enter Tryz.func66,Tryz.ntmps66
 go_wp2_with fail
 go_region
 go_wp2;go_ret;exact⟨rfl,hb⟩
section
section
variable {K V:Type} [DecidableEq K]
theorem ua {A:List (K×V)} {k:K} {v:V} {x:K×V} (h:x∈bN A k v):x=(k,v)\/(x∈A/\x.1≠k):=by
 unfold bN at h;split at h
 . obtain⟨y,hy,he⟩:=Ar.1 h;split at he
   . exact .inl he.symm
   . rename_i hne;subst he;exact .inr ⟨hy,fun e=>hne e.symm⟩
 . rename_i hk;rcases A6.1 h with h|h
   . exact .inr ⟨h,fun e=>hk (Ar.2 ⟨x,h,e⟩)⟩
   . exact .inl (BQ.1 h)
theorem rM {β:Type} {A:List (K×V)} {k:K} {u v:V} {f:K×V->β} (hn:(A.map (·.1)).Nodup) (h:az A k=some u) (hf:f (k,v)=f (k,u)):(bN A k v).map f=A.map f:=by
 have hm:=jJ h;unfold bN;rw[An (Ar.2 ⟨_,hm,rfl⟩),B6];refine BH fun x hx=>?_
 simp only[Function.comp];split
 . rename_i e;obtain⟨a,b⟩:=x;simp only at e;subst e;rw[xD hn hx hm];exact hf
 . rfl
theorem zr {β:Type} {A:List (K×V)} {k:K} {v:V} {f:K×V->β} (h:az A k=none):(bN A k v).map f=A.map f++[f (k,v)]:=by
 unfold bN;rw[Ai (bI.1 h),AF];rfl
theorem NO (A:List (K×V)) (k:K) (u v:V):bN (bN A k u) k v=bN A k v:=by
 by_cases h:k∈A.map (·.1)
 . have h1:bN A k u=A.map (fun x=>if k=x.1 then(k,u)else x):=An h;have h2:bN A k v=A.map (fun x=>if k=x.1 then(k,v)else x):=An h;have h3:k∈(bN A k u).map (·.1):=by rw[mem_keys,gD];simp
   have h4:bN (bN A k u) k v=(bN A k u).map (fun x=>if k=x.1 then(k,v)else x):=An h3;rw[h4,h1,h2,B6];refine BH fun x _=>?_
   simp only[Function.comp];by_cases e:k=x.1<;>simp[e]
 . have h1:bN A k u=A++[(k,u)]:=Ai h;have h2:bN A k v=A++[(k,v)]:=Ai h;have h3:k∈(bN A k u).map (·.1):=by rw[mem_keys,gD];simp
   have h4:bN (bN A k u) k v=(bN A k u).map (fun x=>if k=x.1 then(k,v)else x):=An h3;rw[h4,h1,h2,AF];congr 1
   . conv=>rhs;rw[<-EP A]
     refine BH fun x hx=>?_
     rw[Ai (fun e=>h (Ar.2 ⟨x,hx,e.symm⟩))];rfl
   . simp
end
theorem dZ.more {S T:Nat->Prop} {a b c:World} (h:dZ S a b) (k:dZ T b c) (hT:∀i,i<a.heap.size->T i->S i):dZ S a c:=
 ⟨k.os.trans h.os,k.tape.trans h.tape,k.output.trans h.output,AW h.size k.size,fun i hi hS=>(k.block i (AK hi h.size) fun ht=>hS (hT i hi ht)).trans (h.block i hi hS)⟩
section
variable {w w':World} {n b bk ba bd bs bv:Nat} {G:bC}
theorem cB.gz (h:cB w n b bk ba bd bs bv G) {k:bg} {j:Nat} {L L':DL} (hj:az G.alive k=some (j,L)) {o:Obj} (hm:aw (World.aJ w j o) j aX cz L'):cB (World.aJ w j o) n b bk ba bd bs bv {G with alive:=bN G.alive k (j,L')}:=by
 have hjm:=jJ hj;have hmap:=aw.isMap (h.mi _ hjm);obtain⟨n1,n2,n3,n4⟩:=h.pA hjm;have hblk:(bN G.alive k (j,L')).map (·.2.1)=G.alive.map (·.2.1):=rM h.ma.nd hj rfl;refine h.kT (j:=j) (by unfold dx;simp only[Al,Ar];exact .inr (.inr (.inr (.inr ⟨_,hjm,rfl⟩)))) (h.gp.same (fi hmap n1.symm)) ((h.ma.same (fi hmap n2.symm)).repr (rM h.ma.nd hj rfl) (rM h.ma.nd hj rfl)) (h.md.same (fi hmap n3.symm)) (h.mv.same (fi hmap n4.symm)) (fun x hx=>?_) ?_ (fun x hx=>?_) h.ev
 . rcases ua hx with rfl|⟨hx,hk⟩
   . exact hm
   . refine(h.mi x hx).same (fi hmap fun e=>?_);have hnd:=h.nd;simp only[Dj]at hnd;have hnd:=hnd.2.2.2.2;have:∀{A:List (bg×(Nat×DL))},(A.map (·.2.1)).Nodup->x∈A->(k,(j,L))∈A->x=(k,(j,L)):=by
      intro A;induction A with
      |nil=>intro _ h;cases h
      |cons y A ih=>
       intro hn h1 h2;rw[AZ,Dj]at hn;rcases Al.1 h1 with h1|h1<;>rcases Al.1 h2 with h2|h2
       . rw[h1,h2]
       . exact absurd (Ar.2 ⟨_,h2,by rw[<-h1];exact e.symm⟩) hn.1
       . exact absurd (Ar.2 ⟨_,h1,by rw[<-h2];exact e⟩) hn.1
       . exact ih hn.2 h1 h2
     have:=this hnd hx hjm;rw[this]at hk;exact hk rfl
 . show(bk::ba::bd::bv::(bN G.alive k (j,L')).map (·.2.1)).Nodup
   rw[hblk];exact h.nd
 . have:x.2.1∈(bN G.alive k (j,L')).map (·.2.1):=Ar.2 ⟨x,hx,rfl⟩;rw[hblk]at this;refine h.low _ ?_;simp only[Al];exact .inr (.inr (.inr (.inr (.inr (.inr this)))))
theorem cB.iO (h:cB w n b bk ba bd bs bv G) {k:bg} {j:Nat} (hn:az G.alive k=none) {o:Obj} (hj:aw w j aX cz ([]:DL)) (hjn:¬dx bk ba bd bv G j) (hlow:n<=j) (hm:aw (World.aJ w ba o) ba eL qz (bN G.alive k (j,[]))):
   cB (World.aJ w ba o) n b bk ba bd bs bv {G with alive:=bN G.alive k (j,[])}:=by
 have hmap:=aw.isMap h.ma;obtain⟨n1,n2,n3,n4,n5,n6⟩:=h.ne;have hblk:(bN G.alive k (j,[])).map (·.2.1)=G.alive.map (·.2.1)++[j]:=zr hn;unfold dx at hjn;simp only[Al,not_or]at hjn;refine h.kT (j:=ba) (by unfold dx;simp) (h.gp.same (fi hmap n1)) hm (h.md.same (fi hmap n4.symm)) (h.mv.same (fi hmap n5.symm)) (fun x hx=>?_) ?_ (fun x hx=>?_) h.ev
 . rcases ua hx with rfl|⟨hx,hk⟩
   . exact hj.same (fi hmap hjn.2.1)
   . exact(h.mi x hx).same (fi hmap (h.pA hx).2.1)
 . show(bk::ba::bd::bv::(bN G.alive k (j,[])).map (·.2.1)).Nodup
   rw[hblk];have h1:(bk::ba::bd::bv::(G.alive.map (·.2.1)++[j]))=(bk::ba::bd::bv::G.alive.map (·.2.1))++[j]:=by simp
   rw[h1,Ea];refine⟨h.nd,by simp,fun a ha c hc=>?_⟩;rw[BQ]at hc;subst hc;rintro rfl;simp only[Al]at ha;rcases ha with ha|ha|ha|ha|ha
   . exact hjn.1 ha
   . exact hjn.2.1 ha
   . exact hjn.2.2.1 ha
   . exact hjn.2.2.2.1 ha
   . exact hjn.2.2.2.2 ha
 . rcases ua hx with rfl|⟨hx,hk⟩
   . exact hlow
   . refine h.low _ ?_;simp only[Al];exact .inr (.inr (.inr (.inr (.inr (.inr (Ar.2 ⟨x,hx,rfl⟩))))))
theorem cB.mM (h:cB w n b bk ba bd bs bv G) {D:DL} {o:Obj} (hm:aw (World.aJ w bd o) bd aX cz D):cB (World.aJ w bd o) n b bk ba bd bs bv {G with dead:=D}:=by
 have hmap:=aw.isMap h.md;obtain⟨n1,n2,n3,n4,n5,n6⟩:=h.ne;exact h.kT (j:=bd) (by unfold dx;simp) (h.gp.same (fi hmap n2)) (h.ma.same (fi hmap n4)) hm (h.mv.same (fi hmap n6.symm)) (fun x hx=>(h.mi x hx).same (fi hmap (h.pA hx).2.2.1)) h.nd (fun x hx=>h.low _ (by simp only[Al];exact .inr (.inr (.inr (.inr (.inr (.inr (Ar.2 ⟨x,hx,rfl⟩)))))))) h.ev
theorem cB.mN (h:cB w n b bk ba bd bs bv G) {d:ak} {x:Value×ae} {o:Obj} (hx:fC w x.1 x.2) (hm:aw (World.aJ w bk o) bk aX iU (bN G.kept d x)):cB (World.aJ w bk o) n b bk ba bd bs bv {G with kept:=bN G.kept d x}:=by
 have hmap:=aw.isMap h.gp;obtain⟨n1,n2,n3,n4,n5,n6⟩:=h.ne;refine h.kT (j:=bk) (by unfold dx;simp) hm (h.ma.same (fi hmap n1.symm)) (h.md.same (fi hmap n2.symm)) (h.mv.same (fi hmap n3.symm)) (fun x hx=>(h.mi x hx).same (fi hmap (h.pA hx).1)) h.nd (fun x hx=>h.low _ (by simp only[Al];exact .inr (.inr (.inr (.inr (.inr (.inr (Ar.2 ⟨x,hx,rfl⟩)))))))) (fun y hy=>?_);rcases ua hy with rfl|⟨hy,_⟩
 . exact hx
 . exact h.ev y hy
theorem cB.iG (h:cB w n b bk ba bd bs bv G) {k:bg} {o:Obj} (hm:aw (World.aJ w ba o) ba eL qz (cS G.alive k)):cB (World.aJ w ba o) n b bk ba bd bs bv {G with alive:=cS G.alive k}:=by
 have hmap:=aw.isMap h.ma;obtain⟨n1,n2,n3,n4,n5,n6⟩:=h.ne;have hsub:∀x∈cS G.alive k,x∈G.alive:=fun x hx=>(BF.1 hx).1
 refine h.kT (j:=ba) (by unfold dx;simp) (h.gp.same (fi hmap n1)) hm (h.md.same (fi hmap n4.symm)) (h.mv.same (fi hmap n5.symm)) (fun x hx=>(h.mi x (hsub x hx)).same (fi hmap (h.pA (hsub x hx)).2.1)) ?_ (fun x hx=>h.low _ (by simp only[Al];exact .inr (.inr (.inr (.inr (.inr (.inr (Ar.2 ⟨x,hsub x hx,rfl⟩)))))))) h.ev;refine List.Sublist.nodup ?_ h.nd;exact((((List.filter_sublist.map _).cons₂ _).cons₂ _).cons₂ _).cons₂ _
end
theorem jo {w:World} {ba:Nat} {A:List (bg×(Nat×DL))} (hm:aw w ba eL qz A) (k:bg):(Instr.lookup 106 (.map (some ba)) (eL k) false).run Tryz.prog w= .ok (.map ((az A k).map (·.1))) w:=by
 rw[hm.lookup vo Tryz.underlying106 (z:= .map none) (by kernel_rfl) k false]
 cases az A k<;>rfl
theorem oh {w:World} {j b o:Nat} {x:Obj} {v:Value} (hj:jO w j) (h:w.cell? ⟨b,o,none⟩=some v):(World.aJ w j x).cell? ⟨b,o,none⟩=some v:=
 eJ h (fi hj fun e=>sL h (by rw[e];exact hj))
theorem wG (e:ae) (v:Value):fM e v= .agg #[.int .i64 e.dot.dev, .int .i64 e.dot.inc, .int .i64 e.dot.seq, .int .i64 e.bY.wall, .int .i64 e.bY.count, .int .i64 e.bY.dev, .int .i64 e.kind,da e.key.name,da e.key.domain,da e.key.path,
 da e.aa.value, .bool e.aa.aR, .bool e.aa.bG, .bool e.aa.aS, .bool e.aa.persistent, .int .i64 e.aa.bp, .int .i64 e.aa.aG, .int .i64 e.aa.access,v]:=rfl
theorem PE (b:Nat) (w:World):(binOp BinOp.eql 107 (.map (some b)) (.map none)).run Tryz.prog w= .ok (.bool false) w:=by kernel_rfl
theorem PI {w:World} {n b bk ba bd bs bv:Nat} {G:bC} (h:cB w n b bk ba bd bs bv G) (e:ae) (v:Value) {j:Nat} {L:DL} (hj:az G.alive e.key=some (j,L)):
   Calls Tryz.prog 67 #[.pointer (some ⟨b,0,none⟩),fM e v] w fun e' w'=>e'= .returned (.tuple #[])/\dZ (dx bk ba bd bv G) w w'/\cB w' n b bk ba bd bs bv {G with alive:=bN G.alive e.key (j,bN L e.dot 1)}:=by
 rw[wG];obtain⟨W,hW⟩:∃W,(w.alloc (.cells #[.int .i64 e.dot.dev, .int .i64 e.dot.inc, .int .i64 e.dot.seq, .int .i64 e.bY.wall, .int .i64 e.bY.count, .int .i64 e.bY.dev, .int .i64 e.kind,da e.key.name,da e.key.domain,da e.key.path,
   da e.aa.value, .bool e.aa.aR, .bool e.aa.bG, .bool e.aa.aS, .bool e.aa.persistent, .int .i64 e.aa.bp, .int .i64 e.aa.aG, .int .i64 e.aa.access,v] 75))=W:=⟨_,rfl⟩
 have hb:Below w.heap.size w W:=by rw[<-hW];exact(Below.refl w.heap.size w).alloc (Aj _) _
 have h0:=h.below hb;go_enter Tryz.func67,Tryz.ntmps67
 go_wp2_with fail
 have k7:W.cell? ⟨w.heap.size,7,none⟩=some (da e.key.name):=by rw[<-hW];simp
 have k8:W.cell? ⟨w.heap.size,8,none⟩=some (da e.key.domain):=by rw[<-hW];simp
 have k9:W.cell? ⟨w.heap.size,9,none⟩=some (da e.key.path):=by rw[<-hW];simp
 have d0:W.cell? ⟨w.heap.size,0,none⟩=some (.int .i64 e.dot.dev):=by rw[<-hW];simp
 have d1:W.cell? ⟨w.heap.size,1,none⟩=some (.int .i64 e.dot.inc):=by rw[<-hW];simp
 have d2:W.cell? ⟨w.heap.size,2,none⟩=some (.int .i64 e.dot.seq):=by rw[<-hW];simp
 have h1:=h0.below (Below.refl W.heap.size W).drew;have c1:=h0.c1;have hlk:=jo h1.ma e.key;rw[hj]at hlk;have hjm:(e.key,(j,L))∈G.alive:=jJ hj;have h2:=h1.below (Below.refl W.drew.heap.size W.drew).drew;obtain⟨es,clk,hu,hmu⟩:=(h2.mi _ hjm).update fJ Tryz.underlying107 e.dot 1;have hlk2:=jo h2.ma e.key;rw[hj]at hlk2;have hnil:=fun w=>PE j w
 rw[show eL e.key= .agg #[da e.key.name,da e.key.domain,da e.key.path]from rfl]at hlk hlk2;unfold aX cz at hu;clear h0 h hW;go_region
 go_wp2_with fail
 go_region
 go_wp2;go_end0
 refine⟨rfl,?_,h2.gz hj hmu⟩;refine(jY (hb.drew.drew)).more (T:=(· =j)) ⟨rfl,rfl,rfl,by simp[World.aJ],fun k _ hk=>?_⟩ ?_
 . exact fi (aw.isMap (h2.mi _ hjm)) hk
 . rintro i _ rfl;unfold dx;simp only[Al,Ar];exact .inr (.inr (.inr (.inr ⟨_,hjm,rfl⟩)))
theorem PH {w:World} {n b bk ba bd bs bv:Nat} {G:bC} (h:cB w n b bk ba bd bs bv G) (hn:n<=w.heap.size) (e:ae) (v:Value) (hj:az G.alive e.key=none):
  Calls Tryz.prog 67 #[.pointer (some ⟨b,0,none⟩),fM e v] w fun e' w'=>e'= .returned (.tuple #[])/\dZ (dx bk ba bd bv G) w w'/\ ∃j,w.heap.size<=j/\cB w' n b bk ba bd bs bv {G with alive:=bN G.alive e.key (j,[(e.dot,1)])}:=by
 rw[wG];obtain⟨W,hW⟩:∃W,(w.alloc (.cells #[.int .i64 e.dot.dev, .int .i64 e.dot.inc, .int .i64 e.dot.seq, .int .i64 e.bY.wall, .int .i64 e.bY.count, .int .i64 e.bY.dev, .int .i64 e.kind,da e.key.name,da e.key.domain,da e.key.path,
  da e.aa.value, .bool e.aa.aR, .bool e.aa.bG, .bool e.aa.aS, .bool e.aa.persistent, .int .i64 e.aa.bp, .int .i64 e.aa.aG, .int .i64 e.aa.access,v] 75))=W:=⟨_,rfl⟩
 have hb:Below w.heap.size w W:=by rw[<-hW];exact(Below.refl w.heap.size w).alloc (Aj _) _
 have h0:=h.below hb;have hmm:= @run_makeMap Tryz.prog;go_enter Tryz.func67,Tryz.ntmps67
 go_wp2_with fail
 have k7:W.cell? ⟨w.heap.size,7,none⟩=some (da e.key.name):=by rw[<-hW];simp
 have k8:W.cell? ⟨w.heap.size,8,none⟩=some (da e.key.domain):=by rw[<-hW];simp
 have k9:W.cell? ⟨w.heap.size,9,none⟩=some (da e.key.path):=by rw[<-hW];simp
 have d0:W.cell? ⟨w.heap.size,0,none⟩=some (.int .i64 e.dot.dev):=by rw[<-hW];simp
 have d1:W.cell? ⟨w.heap.size,1,none⟩=some (.int .i64 e.dot.inc):=by rw[<-hW];simp
 have d2:W.cell? ⟨w.heap.size,2,none⟩=some (.int .i64 e.dot.seq):=by rw[<-hW];simp
 have hsz:W.heap.size=w.heap.size+1:=by rw[<-hW];simp
 have h1:=h0.below (Below.refl W.heap.size W).drew;have c1:=h0.c1;have hlk:=jo h1.ma e.key;rw[hj]at hlk;have hnew:Below W.heap.size W (W.alloc (.map #[] 0)).drew.drew:=((Below.refl W.heap.size W).alloc (Aj _) _).drew.drew;have h2:=h0.below hnew;have hjn:¬dx bk ba bd bv G W.heap.size:=fun hm=>by
  obtain⟨es,clk,hx⟩:=h0.maps _ hm;have:=(Ac.1 hx).1;omega
 have hfr:aw (W.alloc (.map #[] 0)).drew.drew W.heap.size aX cz ([]:DL):=oc (by show(W.alloc (.map #[] 0)).heap[W.heap.size]? =_;rw[kJ];simp);obtain⟨es,clk,hu,hmu⟩:=h2.ma.update vo Tryz.underlying106 e.key ((W.heap.size,[]):Nat×DL);have h3:=h2.iO hj hfr hjn (by omega) hmu;have up:∀{o:Nat} {x:Value},W.cell? ⟨w.heap.size,o,none⟩=some x->(W.alloc (.map #[] 0)).cell? ⟨w.heap.size,o,none⟩=some x:=fun hx=>(((Below.refl W.heap.size W).alloc (Aj _) _).cell (by rw[hsz];exact Dw _)).trans hx
 have k7':=up k7;have k8':=up k8;have k9':=up k9;have d0':=up d0;have d1':=up d1;have d2':=up d2;have c1':(W.alloc (.map #[] 0)).cell? ⟨b,1,none⟩=some (.map (some ba)):=h2.c1;rw[hsz]at hu;clear up h0 h hW;rw[show eL e.key= .agg #[da e.key.name,da e.key.domain,da e.key.path]from rfl]at hlk hu;rw[show qz (w.heap.size+1,[])= .map (some (w.heap.size+1))from rfl]at hu;have hnil:∀w,(binOp BinOp.eql 107 (.map none) (.map none)).run Tryz.prog w= .ok (.bool true) w:=fun w=>by kernel_rfl
 go_region
 go_wp2_with fail
 have hmb:jO (W.alloc (.map #[] 0)).drew.drew ba:=aw.isMap h2.ma;obtain⟨W3,hW3⟩:∃W3,World.aJ (W.alloc (.map #[] 0)).drew.drew ba (.map es clk)=W3:=⟨_,rfl⟩;have up3:∀{o:Nat} {x:Value},(W.alloc (.map #[] 0)).cell? ⟨w.heap.size,o,none⟩=some x->W3.cell? ⟨w.heap.size,o,none⟩=some x:=fun hx=>by rw[<-hW3];exact oh hmb hx
 have k7'':=up3 k7';have k8'':=up3 k8';have k9'':=up3 k9';have d0'':=up3 d0';have d1'':=up3 d1';have d2'':=up3 d2';have hbut:dZ (dx bk ba bd bv G) w W3:=by
  refine(jY (hb.trans (hnew.mono hb.size))).more (T:=(· =ba)) ⟨by rw[<-hW3];rfl,by rw[<-hW3];rfl,by rw[<-hW3];rfl,by rw[<-hW3];simp[World.aJ],fun k _ hk=>by rw[<-hW3];exact fi hmb hk⟩ ?_;rintro i _ rfl;unfold dx;simp
 rw[hW3]at h3 hu;have c1'':=h3.c1;have h4:=h3.below (Below.refl W3.heap.size W3).drew;have hget:az (bN G.alive e.key (W.heap.size,[])) e.key=some (W.heap.size,[]):=by rw[gD];simp
 have hlk3:=jo h4.ma e.key;rw[hget,show eL e.key= .agg #[da e.key.name,da e.key.domain,da e.key.path]from rfl]at hlk3;obtain⟨es2,clk2,hu2,hmu2⟩:=(h4.mi _ (jJ hget)).update fJ Tryz.underlying107 e.dot 1;rw[show aX e.dot= .agg #[.int .i64 e.dot.dev, .int .i64 e.dot.inc, .int .i64 e.dot.seq]from rfl,show cz 1= .int .i64 1 from rfl]at hu2;have hj2:jO W3 W.heap.size:=aw.isMap (h3.mi _ (jJ hget));have h5:=h4.gz hget hmu2;rw[NO]at h5;simp only[hsz,A0]at hlk3 hu2;clear h1 h2 h3 h4 hfr hmu hmu2 hget hmb;go_region
 go_wp2_with fail
 go_region
 go_wp2;go_end0
 rw[hsz]at h5 hj2;refine⟨rfl,hbut.more (T:=(· =w.heap.size+1)) ⟨rfl,rfl,rfl,by simp[World.aJ],fun k _ hk=>fi (w:=W3.drew) hj2 hk⟩ (fun i hi e=>by subst e;omega),_,EM _,h5⟩
end
end Go.Proofs
namespace Go.Gm
open Go Go.RowKit Go.Maps Go.Proofs Go.ChangeMaps
section
variable {P:Program} {K V:Type} [DecidableEq K]
structure cw (w:World) (r b:Nat) (enc:K->Value) (encV:V->Value) (L ss left:List (K×V)):Prop where
 ex:∃es clk seen,w.heap[b]? =some (.map es clk)/\fV enc encV es.toList L/\(es.toList.map (·.born)).Pairwise (· < ·)/\(∀e∈es.toList,e.born<clk)/\w.heap[r]? =some (.mapIter (some b) clk seen clk)/\fV enc encV (leftOf es seen).toList left
 perm:(ss++left).Perm L
theorem Ie:∀{l:List Nat},l.Pairwise (· < ·)->l.Nodup:=fun h=>h.imp fun h=>Nat.ne_of_lt h
theorem aw.range {w:World} {b:Nat} {enc:K->Value} {encV:V->Value} {L:List (K×V)} (h:aw w b enc encV L) {t T Te:TypeId} (ht:P.underlying t=some (.map T Te)):
  ∃w',(Instr.range t (.map (some b))).run P w= .ok (.pointer (some ⟨w.heap.size,0,none⟩)) w'/\cw w' w.heap.size b enc encV L [] L/\Below w.heap.size w w'/\w'.heap.size=w.heap.size+1:=by
 obtain⟨⟨es,clk,hb,hr,hs,hc⟩,_⟩:=h;have hlt:=(Ac.1 hb).1;refine⟨_,run_range_map w t T Te b es clk ht hb,⟨⟨es,clk,#[],(Below.heap_alloc w _ b hlt).trans hb,hr,hs,hc,by rw[kJ,An rfl],?_⟩,by simp⟩,(Below.refl _ w).alloc (Aj _) _,by simp⟩;have:leftOf es #[]=es:=by simp[leftOf]
 rw[this];exact hr
theorem FX {enc:K->Value} {encV:V->Value}:∀{es:List MapEntry} {L:List (K×V)},fV enc encV es L->∀e∈es,∃M1 x M2 es1 es2,L=M1++x::M2/\es=es1++e::es2/\fV enc encV es1 M1/\fV enc encV es2 M2/\e.key=enc x.1/\e.val=encV x.2
 |[],_,_,e,h=>by cases h
 |a::es,[],h,_,_=>by simp[fV]at h
 |a::es,y::L,h,e,he=>by
  simp only[fV,AZ,BU,By]at h;rcases Al.1 he with rfl|he
  . exact⟨[],y,L,[],es,rfl,rfl,rfl,h.2,h.1.1,h.1.2⟩
  . obtain⟨M1,x,M2,es1,es2,h1,h2,h3,h4,h5⟩:=FX (h.2:fV enc encV es L) e he;refine⟨y::M1,x,M2,a::es1,es2,by rw[h1];rfl,by rw[h2];rfl,?_,h4,h5⟩;simp only[fV,AZ,BU,By];exact⟨h.1,h3⟩
theorem cw.next {w:World} {r b:Nat} {enc:K->Value} {encV:V->Value} {L ss left:List (K×V)} (h:cw w r b enc encV L ss left) (ty:TypeId):
   (left=[]/\ss.Perm L/\(Instr.next (.pointer (some ⟨r,0,none⟩)) false ty).run P w= .ok (.tuple #[.bool false]) w)\/
   ∃ x left' w',(Instr.next (.pointer (some ⟨r,0,none⟩)) false ty).run P w= .ok (.tuple #[.bool true,enc x.1,encV x.2]) w'/\cw w' r b enc encV L (ss++[x]) left'/\left.length=left'.length+1/\dZ (· =r) w w'/\w'.heap.size=w.heap.size/\
     (Instr.entry (.pointer (some ⟨r,0,none⟩))).run P w'= .ok (.tuple #[enc x.1,encV x.2]) w':=by
 obtain⟨⟨es,clk,seen,hb,hr,hs,hc,hi,hl⟩,hp⟩:=h;have hnd:=Ie hs;rcases run_next_at (P:=P) w ty r b clk clk seen es clk hi hb hc (Aj _)with⟨h0,hrun⟩|⟨e,he,w1,hw1,hrun⟩
 . have:left=[]:=by
     have:=Ay List.length hl;simp only[BT,Array.length_toList,h0]at this;exact Bj.1 this.symm
   subst this;exact .inl ⟨rfl,by simpa using hp,hrun⟩
 . obtain⟨M1,x,M2,es1,es2,h1,h2,h3,h4,h5,h6⟩:=FX hl e he;have hi1:w1.heap[r]? =some (.mapIter (some b) clk seen clk):=by rcases hw1 with rfl|rfl<;>exact hi
   have hb1:w1.heap[b]? =some (.map es clk):=by rcases hw1 with rfl|rfl<;>exact hb
   have hrlt:=(Ac.1 hi1).1;have hne:b≠r:=fun hh=>by rw[hh]at hb;rw[hb]at hi;cases hi
   have hget:∀k,(setBlock w1 r (.mapIter (some b) clk (seen.push e.born) clk)).heap[k]? =if k=r then some (.mapIter (some b) clk (seen.push e.born) clk)else w1.heap[k]? :=fun k=>by
     simp only[setBlock,Bt];by_cases hk:r=k
     . subst hk;simp[hrlt]
     . rw[Ai hk,Ai (Ne.symm hk)]
   have hem:e∈es.toList:=by
     have:=he;unfold leftOf at this;simp only[Df,BF]at this;exact this.1
   refine .inr ⟨x,M1++M2,_,by rw[<-h5,<-h6];exact hrun,⟨⟨es,clk,seen.push e.born,by rw[hget,Ai hne];exact hb1,hr,hs,hc,by rw[hget,An rfl],?_⟩,?_⟩,by rw[h1];simp;omega,⟨?_,?_,?_,?_,fun k _ hk=>?_⟩,?_,by rw[<-h5,<-h6];exact run_entry_at _ r b clk seen es clk e (by rw[hget,An rfl]) (by rw[hget,Ai hne];exact hb1) hem hnd⟩
   . have hsub:((leftOf es seen).toList.map (·.born)).Nodup:=by
       unfold leftOf;rw[Df];exact hnd.sublist (List.filter_sublist.map _)
     have hcut:(leftOf es (seen.push e.born)).toList=(leftOf es seen).toList.filter fun y=> !(y.born==e.born):=by
       unfold leftOf;rw[Df,Df,List.filter_filter];congr 1
       funext y
       rw[Array.contains_push];by_cases hh:y.born=e.born
       . simp[hh]
       . have h2:(y.born==e.born)=false:=by simpa using hh
         have h3:(e.born==y.born)=false:=by simpa using fun e=>hh e.symm
         simp only[h2,h3]
         cases seen.contains y.born<;>rfl
     rw[hcut,h2];rw[h2,AF,AZ,Ea]at hsub;obtain⟨n1,n2,n3⟩:=hsub;rw[Dj]at n2;have f1:es1.filter (fun y=> !(y.born==e.born))=es1:=by
       rw[BY];intro y hy;have:=n3 y.born (Ar.2 ⟨y,hy,rfl⟩) e.born Ap;simpa using this
     have f2:es2.filter (fun y=> !(y.born==e.born))=es2:=by
       rw[BY];intro y hy;have:y.born≠e.born:=fun hh=>n2.1 (Ar.2 ⟨y,hy,hh⟩)
       simpa using this
     rw[DH,B0,f1,f2];simp only[Du,BN,Ao,AP];unfold fV at h3 h4⊢;rw[AF,AF,h3,h4]
   . rw[h1]at hp;refine List.Perm.trans ?_ hp;rw[BC];refine List.Perm.append_left ss ?_;simp only[Db];exact List.perm_middle.symm
   . rcases hw1 with rfl|rfl<;>rfl
   . rcases hw1 with rfl|rfl<;>rfl
   . rcases hw1 with rfl|rfl<;>rfl
   . rcases hw1 with rfl|rfl<;>simp[setBlock]
   . rw[hget,Ai hk];rcases hw1 with rfl|rfl<;>rfl
   . rcases hw1 with rfl|rfl<;>simp[setBlock]
section
variable (w:World) {ops:Array Oper} {rest:List Oper} {o:Oper} {a:Act} {Q:Exit->Act->World->Prop}
theorem Ij (hg:o.guard=none) (m:Operand) (t:TypeId) (hop:o.op=Op.range t m) {T Te:TypeId} (ht:P.underlying t=some (.map T Te)) (b:Nat) {enc:K->Value} {encV:V->Value} {L:List (K×V)}
  (hm:a.eval m= .map (some b)) (h:aw w b enc encV L)
  (hK:∀w',cw w' w.heap.size b enc encV L [] L->Below w.heap.size w w'->w'.heap.size=w.heap.size+1->wpList P ops Q rest (a.put o.dst (.pointer (some ⟨w.heap.size,0,none⟩))) w'):wpList P ops Q (o::rest) a w:=by
 refine wpList_plain hg fun K' hK'=>?_
 obtain⟨w',hrun,r1,r2,r3⟩:=h.range (P:=P) ht;unfold Oper.wp;simp[execOp,hop,hm,hrun,Result.andThen];exact hK' _ _ (hK w' r1 r2 r3)
theorem Ic (hg:o.guard=none) (it:Operand) (hop:o.op=Op.next it false) (r b:Nat) {enc:K->Value} {encV:V->Value} {L ss left:List (K×V)}
   (hit:a.eval it= .pointer (some ⟨r,0,none⟩)) (h:cw w r b enc encV L ss left)
   (hDone:left=[]->ss.Perm L->wpList P ops Q rest (a.put o.dst (.tuple #[.bool false])) w)
   (hMore:∀x left' w',cw w' r b enc encV L (ss++[x]) left'->left.length=left'.length+1->dZ (· =r) w w'->w'.heap.size=w.heap.size->(Instr.entry (.pointer (some ⟨r,0,none⟩))).run P w'= .ok (.tuple #[enc x.1,encV x.2]) w'->
    wpList P ops Q rest (a.put o.dst (.tuple #[.bool true,enc x.1,encV x.2])) w'):wpList P ops Q (o::rest) a w:=by
 refine wpList_plain hg fun K' hK'=>?_
 unfold Oper.wp;rcases h.next (P:=P) o.type with⟨h0,hl,hrun⟩|⟨x,left',w',hrun,h1,h2,h3,h4,h5⟩
 . simp[execOp,hop,hit,hrun,Result.andThen];exact hK' _ _ (hDone h0 hl)
 . simp[execOp,hop,hit,hrun,Result.andThen];exact hK' _ _ (hMore x left' w' h1 h2 h3 h4 h5)
end
end
end Go.Gm
namespace Go.Proofs
open Go Go.Am Go.RowKit Go.Sy Go.Gm Go.Maps Go.Sort
section
section
variable {K V:Type} [DecidableEq K] {F:Fence} {n:Nat} {P:Program} (w:World) {ops:Array Oper} {rest:List Oper} {o:Oper} {a:Act} {Q:Exit->Act->World->Prop}
theorem H9 (hg:o.guard=none) (m:Operand) (t:TypeId) (hop:o.op=Op.range t m) {T Te:TypeId} (ht:P.underlying t=some (.map T Te)) (b:Nat) {enc:K->Value} {encV:V->Value} {L:List (K×V)}
  (hm:a.eval m= .map (some b)) (h:aw w b enc encV L)
  (hK:∀w',cw w' w.heap.size b enc encV L [] L->w.grownBy w' none->w'.heap.size=w.heap.size+1->wpListIn F n P ops Q rest (a.put o.dst (.pointer (some ⟨w.heap.size,0,none⟩))) w'):wpListIn F n P ops Q (o::rest) a w:=by
 refine wpListIn_plain hg fun K' hK'=>?_
 obtain⟨w',hrun,r1,r2,r3⟩:=h.range (P:=P) ht;unfold Oper.wpIn;refine⟨by simp[Oper.about,hop],?_⟩;rw[Oper.semAt_plain F _ _ (by rw[hop];intro c hc';cases hc')];simp[execOp,hop,hm,hrun,Result.andThen];exact hK' _ _ (hK w' r1 ⟨r2.os,r2.tape,r2.output,r2.size,fun i hi _=>r2.block i hi⟩ r3)
theorem H8 (hg:o.guard=none) (it:Operand) (hop:o.op=Op.next it false) (r b:Nat) {enc:K->Value} {encV:V->Value} {L ss left:List (K×V)}
   (hit:a.eval it= .pointer (some ⟨r,0,none⟩)) (h:cw w r b enc encV L ss left)
   (hDone:left=[]->ss.Perm L->wpListIn F n P ops Q rest (a.put o.dst (.tuple #[.bool false])) w)
   (hMore:∀x left' w',cw w' r b enc encV L (ss++[x]) left'->left.length=left'.length+1->w.grownBy w' (some r)->w'.heap.size=w.heap.size->(Instr.entry (.pointer (some ⟨r,0,none⟩))).run P w'= .ok (.tuple #[enc x.1,encV x.2]) w'->
    wpListIn F n P ops Q rest (a.put o.dst (.tuple #[.bool true,enc x.1,encV x.2])) w'):wpListIn F n P ops Q (o::rest) a w:=by
 refine wpListIn_plain hg fun K' hK'=>?_
 unfold Oper.wpIn;refine⟨by simp[Oper.about,hop],?_⟩;rw[Oper.semAt_plain F _ _ (by rw[hop];intro c hc';cases hc')];rcases h.next (P:=P) o.type with⟨h0,hl,hrun⟩|⟨x,left',w',hrun,h1,h2,h3,h4,h5⟩
 . simp[execOp,hop,hit,hrun,Result.andThen];exact hK' _ _ (hDone h0 hl)
 . simp[execOp,hop,hit,hrun,Result.andThen];exact hK' _ _ (hMore x left' w' h1 h2 ⟨h3.os,h3.tape,h3.output,h3.size,fun i hi hne=>h3.block i hi fun e=>hne (by rw[e])⟩ h4 h5)
end
theorem _root_.Go.Gm.cw.jA {K V:Type} [DecidableEq K] {w w':World} {r b:Nat} {enc:K->Value} {encV:V->Value} {L ss left:List (K×V)} (h:cw w r b enc encV L ss left) (hk:KeepsWalks w w'):cw w' r b enc encV L ss left:=by
 obtain⟨⟨es,clk,seen,hb,hr,hs,hc,hi,hl⟩,hp⟩:=h;exact⟨⟨es,clk,seen,hk.same _ _ hb rfl,hr,hs,hc,hk.same _ _ hi rfl,hl⟩,hp⟩
theorem _root_.Go.Gm.cw.isWalk {K V:Type} [DecidableEq K] {w:World} {r b:Nat} {enc:K->Value} {encV:V->Value} {L ss left:List (K×V)} (h:cw w r b enc encV L ss left):∃o:Obj,w.heap[r]? =some o/\o.isWalk=true:=by
 obtain⟨⟨es,clk,seen,hb,hr,hs,hc,hi,hl⟩,hp⟩:=h;exact⟨_,hi,rfl⟩
theorem _root_.Go.Gm.cw.left_eq {K V:Type} [DecidableEq K] {w:World} {r b:Nat} {enc:K->Value} {encV:V->Value} {L ss left:List (K×V)} (h:cw w r b enc encV L ss left):w.rangeLeft b r=left.length:=by
 obtain⟨⟨es,clk,seen,hb,hr,hs,hc,hi,hl⟩,hp⟩:=h;have:=Ay List.length hl;simp only[BT,Array.length_toList]at this;unfold World.rangeLeft;rw[hb,hi];exact this
theorem QS (l Bm b n:Nat) (hn:1<=n) (L:DL) (J:List ak->World->Prop)
  (hY:∀pre x W,J pre W->pre.length<L.length->YieldAt Fence.wide (n - 1) Tryz.prog l #[aX x] W fun e W'=>e= .returned (.bool true)/\J (pre++[x]) W'/\KeepsWalks W W')
  (W:World) (hJ:AbidesFrom W.heap.size J) (hm:W.cell? ⟨Bm,0,none⟩=some (.map (some b))) (hown:aw W b aX cz L) (h0:J [] W):
  CallsIn Fence.wide n Tryz.prog 181 #[.func (.yield l) #[] #[], .pointer (some ⟨Bm,0,none⟩)] W fun e W'=>(∃v,e= .returned v)/\ ∃ss:List ak,ss.Perm (L.map (·.1))/\J ss W':=by
 refine callsIn_of_wp Tryz.func181 rfl trivial ?_ rfl;simp only[Tryz.ntmps181,Bp,AX,Bc,Nat.reduceAdd,Nat.reduceSub,DB,DA,DN,DE,BE,BO];gi_wp2_with (first
  |(gi_at_range;refine H9 _ rfl _ 107 rfl Tryz.underlying107 b rfl hown ?_;intro w0 hrg0 hg0 hs0)
  |gi_in)
 go_frame
 gi_loopw [3] (fun _ wr=>∃(ss left:DL),cw wr W.heap.size b aX cz L ss left/\ss.length+left.length=L.length/\J (ss.map (·.1)) wr/\W.heap.size<wr.heap.size)
  (fun _ wr=>wr.rangeLeft b W.heap.size)
 case atStart=>exact⟨[],L,hrg0,by simp,hJ [] W w0 none h0 hg0 (fun r e=>by cases e),by omega⟩
 case round=>
  obtain⟨ss,left,hrg,hcs,hJs,hbig⟩:=hrel;gi_wp2_with (first
    |(gi_at_next;refine H8 _ rfl _ rfl W.heap.size b rfl hrg ?_ ?_)
    |gi_in)
  . intro hl0 hperm;gi_wp2
    go_end0
    exact⟨⟨_,rfl⟩,_,hperm.map _,hJs⟩
  . intro d nn left' w2 hrg2 hlt hg2 hs2 hen;have hJ2:J (ss.map (·.1)) w2:=hJ _ wr w2 (some W.heap.size) hJs hg2 (fun r e=>by cases e;exact⟨Aj _,hrg.isWalk⟩);have hba:w2.grownBy (w2.alloc (.cells #[.int .i64 d.dev, .int .i64 d.inc, .int .i64 d.seq] 71)) none:=World.grownBy_alloc w2 _ none;have hJ3:=hJ _ w2 _ none hJ2 hba (fun r e=>by cases e);have hrg3:=hrg2.jA (KeepsWalks.alloc w2 (.cells #[.int .i64 d.dev, .int .i64 d.inc, .int .i64 d.seq] 71));obtain⟨fn,tmps,assign,body,hy,hR⟩:=hY (ss.map (·.1)) d _ hJ3 (by simp;omega);rw[show aX d= .agg #[.int .i64 d.dev, .int .i64 d.inc, .int .i64 d.seq]from rfl]at hen hy;clear hs2;gi_wp2
    refine hR.mono ?_;rintro e W3 ⟨rfl,hJ4,hk4⟩;gi_wp2
    have hrg4:=hrg3.jA hk4;have hz4:=hk4.size;have hz2:=hg2.size;go_roundw
    case rel=>exact⟨ss++[(d,nn)],left',hrg4,by simp;omega,by simpa using hJ4,by simp at hz4;omega⟩
    case measure=>rw[hrg4.left_eq,hrg.left_eq];omega
theorem Qp (n:Nat) (hn:1<=n) (Bm b:Nat) (L:DL) (w:World) (hBm:Bm<w.heap.size) (hm:w.cell? ⟨Bm,0,none⟩=some (.map (some b))) (hown:aw w b aX cz L):
  SeqGives Fence.wide n Tryz.prog 181 #[.pointer (some ⟨Bm,0,none⟩)] aX (fun ss=>ss.Perm (L.map (·.1))) L.length w:=fun l J W hW hJ hY h0=>
 QS l Bm b n hn L J hY W hJ ((hW.cell (p:=⟨Bm,0,none⟩) hBm).trans hm) (hown.same (hW.block b (Go.Gm.aw.lt hown))) h0
end
end Go.Proofs
namespace Go.Proofs
open Go Go.Am Go.RowKit Go.Sy Go.Gm
section
section
variable [Inhabited aI]
theorem MB {tab:bc} {w:World} {l:List ak} {v:Value} (h:cy w l v):aL (bV tab w).get (cf l) (cQ w.heap.size v):=by
 rcases h with⟨rfl,a,c,rfl⟩|⟨b,off,cap,arr,e,fz,rfl,hb,hc,hl,hi⟩
 . cases a with
   |none=>
    cases c with
    |zero=>exact .bT rfl (.inl rfl)
    |succ c=>exact .bT rfl (.inr (.inr ⟨_,_,rfl⟩))
   |some a=>rw[wQ];exact .bT rfl (.inr (.inr ⟨_,_,rfl⟩))
 . refine xc hb (sz:=3) (by omega) (fun _ _=>rfl) hl rfl hc fun i x j s hx hs=>?_
   have hil:i<l.length:=(Ah.1 hx).1;have hxe:l[i]=x:=(Ah.1 hx).2;obtain⟨e0,e1,e2⟩:=hi i hil;rw[hxe]at e0 e1 e2;have hj:j<3:=(Ah.1 hs).1;match j,hj with
   |0,_=>cases hs;exact⟨_,e0, .int _ _⟩
   |1,_=>cases hs;exact⟨_,e1, .int _ _⟩
   |2,_=>cases hs;exact⟨_,e2, .int _ _⟩
theorem uz {tab:bc} {w:World} {e:ae} {u:Value} (h:fC w u e):aL (bV tab w).get (.agg e.enc) (eY w.heap.size u):=by
 obtain⟨v,rfl,hd⟩:=h;have h18:=MB (tab:=tab) hd;unfold fM eY;refine .agg rfl fun i c x hc hx=>?_
 have hj:i<19:=(Ah.1 hc).1;match i,hj with
 |0,_|1,_|2,_|3,_|4,_|5,_|6,_|15,_|16,_|17,_=>cases hc;cases hx;exact .int _ _
 |7,_|8,_|9,_|10,_=>cases hc;cases hx;exact .str _
 |11,_|12,_|13,_|14,_=>cases hc;cases hx;exact .bool _
 |18,_=>cases hc;cases hx;exact h18
end
theorem Hu {w:World} {e:ae} {u:Value} (h:fC w u e) (hs:jw e):Calls Tryz.prog 60 #[u] w fun e' w'=>e'= .returned (.bool (eS e))/\Below w.heap.size w w':=
 qo (C:=fun I=>eK jw eS) (fun I=> @EV I) (hfn:=rfl) (hb:=rfl) (args:=[u]) (fun I=>⟨e,hs,⟨rfl,fun j c v hc hv=>by
  match j with
  |0=>cases hc;cases hv;exact @uz I _ _ _ _ h
  |_+1=>cases hc⟩,rfl⟩)
def fa:List ak->List Value
 |[]=>[]
 |d::l=> .int .i64 d.dev:: .int .i64 d.inc:: .int .i64 d.seq::fa l
theorem vN:∀l,(fa l).length=l.length*3
 |[]=>rfl
 |d::l=>by simp only[fa,AX,vN l];omega
theorem y5:∀l,∀u∈fa l,u.oneCell'=true
 |[],u,h=>by cases h
 |d::l,u,h=>by
  simp only[fa,Al]at h;rcases h with rfl|rfl|rfl|h
  . rfl
  . rfl
  . rfl
  . exact y5 l u h
theorem qY:∀(l:List ak) (i:Nat) (h:i<l.length),(fa l)[i*3]? =some (.int .i64 l[i].dev)/\(fa l)[i*3+1]? =some (.int .i64 l[i].inc)/\(fa l)[i*3+2]? =some (.int .i64 l[i].seq)
 |d::l,0,_=>⟨rfl,rfl,rfl⟩
 |d::l,i+1,h=>by
  have:=qY l i (by simpa using h);rw[show(i+1)*3=i*3+1+1+1 by omega];exact this
theorem Jv (l:List ak) {j:Nat} {u:Value} (h:(fa l)[j]? =some u):∃i,∃hi:i<l.length,(j=i*3/\u= .int .i64 l[i].dev)\/(j=i*3+1/\u= .int .i64 l[i].inc)\/(j=i*3+2/\u= .int .i64 l[i].seq):=by
 have hj:j<l.length*3:=by rw[<-vN];exact(Ah.1 h).1
 have hi:j / 3<l.length:=by omega
 obtain⟨h0,h1,h2⟩:=qY l (j / 3) hi;refine⟨j / 3,hi,?_⟩;rcases(by omega:j=j / 3*3\/j=j / 3*3+1\/j=j / 3*3+2)with e|e|e
 . rw[e,h0]at h;exact .inl ⟨e,(Di h).symm⟩
 . rw[e,h1]at h;exact .inr (.inl ⟨e,(Di h).symm⟩)
 . rw[e,h2]at h;exact .inr (.inr ⟨e,(Di h).symm⟩)
def iY (n:Nat) (l:List ak) (v:Value):Prop:=l=[]\/ ∃b off k c,v= .slice (some ⟨b,off,none⟩) k c/\n<=b
def cU (w:World) (n:Nat) (l:List ak) (v:Value):Prop:=(l=[]/\ ∃a c,v= .slice a 0 c)\/ ∃b cap arr,v= .slice (some ⟨b,0,none⟩) l.length cap/\n<=b/\w.heap[b]? =some (.cells arr 71 (0,0))/\l.length<=cap/\l.length*3<=arr.size/\
 ∀i (h:i<l.length),arr[i*3]? =some (.int .i64 l[i].dev)/\arr[i*3+1]? =some (.int .i64 l[i].inc)/\arr[i*3+2]? =some (.int .i64 l[i].seq)
theorem cU.cf {w:World} {n:Nat} {l:List ak} {v:Value} (h:cU w n l v):cy w l v:=by
 rcases h with h|⟨b,cap,arr,rfl,hb,h1,h2,h3,h4⟩
 . exact .inl h
 . exact .inr ⟨b,0,cap,arr,71,(0,0),rfl,h1,h2,by rw[AG];exact h3,fun i hi=>by rw[AG];exact h4 i hi⟩
theorem cU.mono {w:World} {n m:Nat} {l:List ak} {v:Value} (h:cU w n l v) (hm:m<=n):cU w m l v:=by
 rcases h with h|⟨b,cap,arr,rfl,hb,hr⟩
 . exact .inl h
 . exact .inr ⟨b,cap,arr,rfl,AW hm hb,hr⟩
theorem cU.bn {w w':World} {n:Nat} {l:List ak} {v:Value} (h:cU w n l v) (hs:∀b arr,n<=b->w.heap[b]? =some (.cells arr 71 (0,0))->w'.heap[b]? =w.heap[b]?):cU w' n l v:=by
 rcases h with h|⟨b,cap,arr,rfl,hb,h1,hr⟩
 . exact .inl h
 . exact .inr ⟨b,cap,arr,rfl,hb,(hs b arr hb h1).trans h1,hr⟩
theorem cU.one {w:World} {n:Nat} {l:List ak} {v:Value} (h:cU w n l v):∃a n c,v= .slice a n c:=by
 rcases h with⟨_,a,c,rfl⟩|⟨_,_,_,rfl,_⟩<;>exact⟨_,_,_,rfl⟩
theorem zu {w:World} {base:Nat} {l:List ak} {v:Value} (h:w.ownsRow base 71 3 v l.length (fa l)):cU w base l v:=by
 rcases h.2 with⟨rfl,h0⟩|⟨g,cap,cur,rfl,hb,hg,h1,h2,h3,h4⟩
 . exact .inl ⟨Bj.1 h0,_,_,rfl⟩
 . refine .inr ⟨g,cap,cur,rfl,hb,hg,h1,by omega,fun i hi=>?_⟩;obtain⟨e0,e1,e2⟩:=qY l i hi;have key:∀j,j<l.length*3->cur[j]? =(fa l)[j]? :=fun j hj=>by
    rw[<-h4,Bh,An hj,BS]
   exact⟨(key _ (by omega)).trans e0,(key (i*3+1) (by omega)).trans e1,(key (i*3+2) (by omega)).trans e2⟩
theorem GY:(Tryz.prog.info? 71).map (fun i=>(i.zero,i.size,i.bytes))=some (some (.agg #[.int .i64 0, .int .i64 0, .int .i64 0]),3,24):=by kernel_rfl
theorem PV {w:World} {l:List ak} {v:Value} (h:cy w l v) (hl:l.length<=100000):Calls Tryz.prog 107 #[v] w fun e w'=>∃v',e= .returned v'/\cU w' w.heap.size l v'/\Below w.heap.size w w':=by
 have q40:∀(w:World) (a:Option Addr) (n c n' c':Nat),(binOp .eql 36 (.slice a n c) (.slice none n' c')).run Tryz.prog w= .ok (.bool a.isNone) w:=fun w a n c n' c'=>Lib.run_eql_slice_nil w _ _ a n c n' c' Tryz.underlying36
 obtain⟨i0,hi,hz0,hz1,hz2⟩:∃i0,Tryz.prog.info? 71=some i0/\i0.zero=some (.agg #[.int .i64 0, .int .i64 0, .int .i64 0])/\i0.size=3/\i0.bytes=24:=by
   have h:=GY
   cases e:Tryz.prog.info? 71 with
   |none=>rw[e]at h;cases h
   |some i=>rw[e]at h;simp only[A0,A1,By]at h;exact⟨i,rfl,h.1,h.2.1,h.2.2⟩
 have go:∀(p:Addr) (c:Nat),(∀j u,(fa l)[j]? =some u->w.cell? (p.add j)=some u)->Calls Tryz.prog 107 #[.slice (some p) l.length c] w fun e w'=>∃v',e= .returned v'/\cU w' w.heap.size l v'/\Below w.heap.size w w':=by
   intro p c hc;have A:Aside (∀j u,(fa l)[j]? =some u->w.cell? (p.add j)=some u):=hc;clear hc;go_enter Tryz.func107,Tryz.ntmps107
   go_wp2_with (at_builtin;refine wpList_append_own _ rfl _ _ 36 rfl w.heap.size 71 i0 _ 3 24 Tryz.underlying36 hi hz0 hz1 hz2 rfl (by omega) _ _ _ rfl (World.ownsRow_made w #[] 0 (Aj _) (Ax _) (by simp)) p l.length c (fa l) rfl ?qc1 ?qc2 ?qc3 ?qc4 ?qc5 ?qc6 ?_)
   case qc1=>exact vN l
   case qc2=>
     intro j u hj;exact Lib.cell?_alloc_some _ (A.out j u hj)
   case qc3=>exact y5 l
   case qc4=>rw[AG];unfold maxLen;omega
   case qc5=>rw[AG];omega
   case qc6=>simp
   intro v' w1 hown hgrow hnil;go_wp2;go_ret;refine⟨v',rfl,zu (by simpa using hown),?_⟩;exact((Below.refl _ w).alloc (Aj _) _).grown hgrow (by simp) (by intro k hk;simp[Value.ownBlock]at hk;omega)
 rcases h with⟨rfl,a,c,rfl⟩|⟨b,off,cap,arr,e,fz,rfl,hb,hc,hl2,hi2⟩
 . cases a with
   | none=>
     clear go;go_enter Tryz.func107,Tryz.ntmps107
     go_wp2;go_ret;exact⟨_,rfl, .inl ⟨rfl,_,_,rfl⟩,Below.refl _ _⟩
   | some a=>
     exact go a c fun j u hj=>by cases hj
 . refine go ⟨b,off,none⟩ cap fun j u hj=>?_
   rw[Addr.add_lit];obtain⟨i,hil,hh⟩:=Jv l hj;obtain⟨e0,e1,e2⟩:=hi2 i hil;have cell:∀{j:Nat} {u:Value},arr[j]? =some u->w.cell? ⟨b,j,none⟩=some u:=fun hx=>by
     unfold World.cell?;simp only[hb,A2,Ao,AP];exact hx
   rcases hh with⟨rfl,rfl⟩|⟨rfl,rfl⟩|⟨rfl,rfl⟩
   . exact cell e0
   . rw[<-BM];exact cell e1
   . rw[<-BM];exact cell e2
end
end Go.Proofs
namespace Go.Proofs
open Go Go.Am Go.RowKit Go.Sy Go.Gm Go.Maps Go.Sort
def jk:Code->Option (Code×Code)
 | .rangeFunc _ _ a b=>some (a,b)
 | .seq a b=>match jk a with
  |some x=>some x
  |none=>jk b
 | .block _ c=>jk c
 | .scope c=>jk c
 | .loop c=>jk c
 |_=>none
noncomputable def yw:Code:=((Tryz.f204.body.bind jk).getD (.skip, .skip)).1
noncomputable def yx:Code:=((Tryz.f204.body.bind jk).getD (.skip, .skip)).2
noncomputable def apRec (fn:FuncId) (sv:Value) (Bs D:Nat) (st:LoopState) (jH:Option Code):Loop:=
 {state:=st,pending:=jH,fn,tmps:=#[.slice none 0 0,sv, .pointer (some ⟨Bs,0,none⟩),undef, .slice none 0 0,undef,sv,undef,undef,undef,undef,undef,undef],params:=#[7],assign:=yw,body:=yx,defers:=D}
structure qC (w0:World) (fn:FuncId) (sv:Value) (Bs l D:Nat) (ss:List ak) (W:World):Prop where
 box:∃v,W.heap[Bs]? =some (.cells #[v] 36 (0,0))/\W.ownsRow w0.heap.size 71 3 v ss.length (fa ss)
 L:W.heap[l]? =some (.loop (apRec fn sv Bs D .ready none))
 K:W.heap[D]? =some (.deferred (some []))
 below:Below w0.heap.size w0 W
theorem JL (w0:World) (fn:FuncId) (sv:Value) (Bs l D B:Nat) (hB:w0.heap.size<=B):AbidesFrom B (qC w0 fn sv Bs l D):=fun s W W' row h hg hrow=>by
 have hrow':∀r,row=some r->∃o:Obj,W.heap[r]? =some o/\o.isWalk=true:=fun r e=>(hrow r e).2
 obtain⟨v,hv,hr⟩:=h.box;exact⟨⟨v,(grownBy_keeps hg hrow' hv rfl).trans hv,ownsRow_abides_a hr hg hrow'⟩,(grownBy_keeps hg hrow' h.L rfl).trans h.L,(grownBy_keeps hg hrow' h.K rfl).trans h.K,h.below.grown hg h.below.size (fun k e=>AW hB (hrow k e).1)⟩
theorem yC (l:List ak) (x:ak):fa (l++[x])=fa l++[.int .i64 x.dev, .int .i64 x.inc, .int .i64 x.seq]:=by
 induction l with
 |nil=>rfl
 |cons d l ih=>simp only[BO,fa,ih]
theorem G4:∃i0,Tryz.prog.info? 71=some i0/\i0.zero=some (.agg #[.int .i64 0, .int .i64 0, .int .i64 0])/\i0.size=3/\i0.bytes=24:=by
 have h:=GY
 cases e:Tryz.prog.info? 71 with
 |none=>rw[e]at h;cases h
 |some i=>rw[e]at h;simp only[A0,A1,By]at h;exact⟨i,rfl,h.1,h.2.1,h.2.2⟩
theorem PN (m:Nat) (w0:World) (fn:FuncId) (sv:Value) (Bs l D:Nat) (hBl:Bs≠l) (hDl:D≠l) (hDB:D≠Bs) (h0B:w0.heap.size<=Bs) (h0l:w0.heap.size<=l)
  (N:Nat) (hN:N<=1000000) (ss:List ak) (x:ak) (W:World) (h:qC w0 fn sv Bs l D ss W) (hlen:ss.length<N):
  YieldAt Fence.wide m Tryz.prog l #[aX x] W fun e W'=>e= .returned (.bool true)/\qC w0 fn sv Bs l D (ss++[x]) W'/\KeepsWalks W W':=by
 obtain⟨i0,hi,hz0,hz1,hz2⟩:=G4;obtain⟨v,hv,hrow⟩:=h.box;refine⟨fn,#[.slice none 0 0,sv, .pointer (some ⟨Bs,0,none⟩),undef, .slice none 0 0,undef,sv,aX x,undef,undef,undef,undef,undef],yw,yx,by simpa [apRec]using run_yield (P:=Tryz.prog) (args:=#[aX x]) h.L rfl,roundIn_of_wpIn trivial ?_⟩;have hl:l<W.heap.size:=(Ac.1 h.L).1;have hne:∀cur:Array Value,Obj.cells #[v] 36 (0,0)≠ .cells cur 71 (0,0):=fun cur e=>by
  have:=(Obj.cells.inj e).2.1;exact absurd this (by decide)
 obtain⟨W1,hW1⟩:∃W1,W.alloc (.cells #[.int .i64 x.dev, .int .i64 x.inc, .int .i64 x.seq] 71)=W1:=⟨_,rfl⟩;have hs1:W1.heap.size=W.heap.size+1:=by rw[<-hW1];simp
 have hold1:∀k,k<W.heap.size->W1.heap[k]? =W.heap[k]? :=fun k hk=>by rw[<-hW1];exact Below.heap_alloc _ _ k hk
 have hBlt0:Bs<W.heap.size:=(Ac.1 hv).1;have hDlt0:D<W.heap.size:=(Ac.1 h.K).1;have hv1:W1.heap[Bs]? =some (.cells #[v] 36 (0,0)):=(hold1 Bs hBlt0).trans hv;have hL1:W1.heap[l]? =some (.loop (apRec fn sv Bs D .ready none)):=(hold1 l hl).trans h.L;have hK1:W1.heap[D]? =some (.deferred (some [])):=(hold1 D hDlt0).trans h.K;have hrow1:W1.ownsRow w0.heap.size 71 3 v ss.length (fa ss):=by rw[<-hW1];exact hrow.alloc _
 have hb1:Below w0.heap.size w0 W1:=by rw[<-hW1];exact h.below.alloc h.below.size _
 have hk1:KeepsWalks W W1:=by rw[<-hW1];exact KeepsWalks.alloc _ _
 have x0':W1.cell? ⟨W.heap.size,0,none⟩=some (.int .i64 x.dev):=by rw[<-hW1];simp
 have x1':W1.cell? ⟨W.heap.size,1,none⟩=some (.int .i64 x.inc):=by rw[<-hW1];simp
 have x2':W1.cell? ⟨W.heap.size,2,none⟩=some (.int .i64 x.seq):=by rw[<-hW1];simp
 have hbr:=run_beginRound (P:=Tryz.prog) hL1 rfl;obtain⟨W2,hW2⟩:∃W2,W1.putObj l (.loop {apRec fn sv Bs D .ready none with state:= .busy})=W2:=⟨_,rfl⟩;rw[hW2]at hbr;have hg2:W1.grownBy W2 (some l):=by rw[<-hW2];exact grownBy_putObj_a _ _ _
 have hk2:KeepsWalks W1 W2:=by rw[<-hW2];exact KeepsWalks.putObj _ hL1 rfl
 have hv2:W2.heap[Bs]? =some (.cells #[v] 36 (0,0)):=by rw[<-hW2];exact(World.putObj_heap_other hBl).trans hv1
 have hK2:W2.heap[D]? =some (.deferred (some [])):=by rw[<-hW2];exact(World.putObj_heap_other hDl).trans hK1
 have hL2:W2.heap[l]? =some (.loop {apRec fn sv Bs D .ready none with state:= .busy}):=by rw[<-hW2];exact World.putObj_heap_same (by omega)
 have hrow2:W2.ownsRow w0.heap.size 71 3 v ss.length (fa ss):=hrow1.kept hg2 (ownsRow_ne_a hrow1 hL1 (fun cur e=>by cases e));have hb2:Below w0.heap.size w0 W2:=hb1.grown hg2 hb1.size (fun k e=>by cases e;exact h0l);have hs2:W2.heap.size=W.heap.size+1:=by rw[<-hW2];simp[hs1]
 have hbx:W2.heap[W.heap.size]? =W1.heap[W.heap.size]? :=by rw[<-hW2];exact World.putObj_heap_other (by omega)
 have x0:=eJ x0' hbx;have x1:=eJ x1' hbx;have x2:=eJ x2' hbx;obtain⟨hc2,hf2⟩:=cell_of_box_a hv2;have hBlt:Bs<W2.heap.size:=(Ac.1 hv2).1;have hl2:l<W2.heap.size:=(Ac.1 hL2).1;have hDlt:D<W2.heap.size:=(Ac.1 hK2).1;have ne_of:∀{j:Nat} {o:Obj},W2.heap[j]? =some o->(∀cur,o≠ .cells cur 71 (0,0))->some j≠v.ownBlock:=fun hj hno=>by
  rcases ownsRow_ne_a hrow2 hj hno with e|e
  . rw[e];simp
  . exact fun e'=>e e'.symm
 clear hW2;rw[show aX x= .agg #[.int .i64 x.dev, .int .i64 x.inc, .int .i64 x.seq]from rfl];conv=>arg 4;whnf
 gi_wp2_with gi_round_op_a
 conv=>arg 4;whnf
 obtain⟨W2b,hW2b⟩:∃W2b,W2.alloc (.cells #[.int .i64 x.dev, .int .i64 x.inc, .int .i64 x.seq] 71)=W2b:=⟨_,rfl⟩;have hrow2b:W2b.ownsRow w0.heap.size 71 3 v ss.length (fa ss):=by rw[<-hW2b];exact hrow2.alloc _
 have hs2b:W2b.heap.size=W2.heap.size+1:=by rw[<-hW2b];simp
 have hold2b:∀k,k<W2.heap.size->W2b.heap[k]? =W2.heap[k]? :=fun k hk=>by rw[<-hW2b];exact Below.heap_alloc _ _ k hk
 have y0:W2b.cell? ⟨W2.heap.size,0,none⟩=some (.int .i64 x.dev):=by rw[<-hW2b];simp
 have y1:W2b.cell? ⟨W2.heap.size,1,none⟩=some (.int .i64 x.inc):=by rw[<-hW2b];simp
 have y2:W2b.cell? ⟨W2.heap.size,2,none⟩=some (.int .i64 x.seq):=by rw[<-hW2b];simp
 rw[hs2]at y0 y1 y2;have hcells:∀j u,([Value.int .i64 x.dev, .int .i64 x.inc, .int .i64 x.seq]:List Value)[j]? =some u->W2b.cell? ((⟨W.heap.size+1,0,none⟩:Addr).add j)=some u:=fun j u hj=>by
  rw[Addr.add_lit];match j with
  |0=>cases hj;exact y0
  |1=>cases hj;exact y1
  |2=>cases hj;exact y2
  |_+3=>cases hj
 have hb2b:Below w0.heap.size w0 W2b:=by rw[<-hW2b];exact hb2.alloc hb2.size _
 have hz2b:w0.heap.size<=W2b.heap.size:=hb2b.size;gi_wp2_with (first
  |(gi_at_builtin;refine wpListIn_append_own _ rfl _ _ 36 rfl w0.heap.size 71 i0 _ 3 24 Tryz.underlying36 hi hz0 hz1 hz2 rfl (by decide) _ _ _ rfl hrow2b ⟨W.heap.size+1,0,none⟩ 1 1 [.int .i64 x.dev, .int .i64 x.inc, .int .i64 x.seq] rfl rfl hcells (by simp[Value.oneCell']) (by unfold maxLen;omega) (by omega) hz2b ?_;intro v' w3 hown' hg3 hnil3;have hg3':W2b.grownBy w3 v.ownBlock:=hg3;have hv3:w3.heap[Bs]? =some (.cells #[v] 36 (0,0)):=(hg3'.block Bs (by omega) (ne_of hv2 hne)).trans ((hold2b Bs hBlt).trans hv2);obtain⟨hc3,hf3⟩:=cell_of_box_a hv3;obtain⟨g',cap',cur',rfl,hbase',hgb',hr1,hr2,hr3,hr4⟩:∃g' cap' cur',v'= .slice (some ⟨g',0,none⟩) (ss.length+1) cap'/\w0.heap.size<=g'/\w3.heap[g']? =some (.cells cur' 71 (0,0))/\ss.length+1<=cap'/\cap'<=maxLen/\cur'.size=cap'*3/\cur'.toList.take ((ss.length+1)*3)=fa ss++[.int .i64 x.dev, .int .i64 x.inc, .int .i64 x.seq]:=hown'.2.resolve_left (fun hh=>absurd hh.2 (by omega));go_frame)
  |gi_round_op_a)
 have hL3:w3.heap[l]? =some (.loop {apRec fn sv Bs D .ready none with state:= .busy}):=(hg3'.block l (by omega) (ne_of hL2 (fun cur e=>by cases e))).trans ((hold2b l hl2).trans hL2);have hK3:w3.heap[D]? =some (.deferred (some [])):=(hg3'.block D (by omega) (ne_of hK2 (fun cur e=>by cases e))).trans ((hold2b D hDlt).trans hK2);obtain⟨w4,hw4⟩:∃w4,w3.setCell ⟨Bs,0,none⟩ (.slice (some ⟨g',0,none⟩) (ss.length+1) cap')=w4:=⟨_,rfl⟩;rw[hw4];have hg4:w3.grownBy w4 (some Bs):=by rw[<-hw4];exact grownBy_setCell0_a _ _ _
 have hv4:w4.heap[Bs]? =some (.cells #[.slice (some ⟨g',0,none⟩) (ss.length+1) cap'] 36 (0,0)):=by rw[<-hw4];exact heap_setCell_box_a _ hv3
 have hL4:w4.heap[l]? =some (.loop {apRec fn sv Bs D .ready none with state:= .busy}):=(hg4.block l (Ac.1 hL3).1 (fun e=>hBl (by cases e;rfl))).trans hL3;have hK4:w4.heap[D]? =some (.deferred (some [])):=(hg4.block D (Ac.1 hK3).1 (fun e=>hDB (by cases e;rfl))).trans hK3;have hrow4:=hown'.kept hg4 (ownsRow_ne_a hown' hv3 hne);have hl4:l<w4.heap.size:=(Ac.1 hL4).1;have hb3:Below w0.heap.size w0 w3:=hb2b.grown hg3' hz2b (fun k e=>(hrow2b.lt k e).1);have hb4:Below w0.heap.size w0 w4:=hb3.grown hg4 hb3.size (fun k e=>by cases e;exact h0B);have hk2b:KeepsWalks W2 W2b:=by rw[<-hW2b];exact KeepsWalks.alloc _ _
 have hk4:KeepsWalks W w4:=(((hk1.trans hk2).trans hk2b).trans (KeepsWalks.of_grownBy hg3' (ownsRow_not_walk_a hrow2b))).trans (by rw[<-hw4];exact KeepsWalks.setCell _ _ _);clear hw4;refine⟨_,_,run_endRound none hL4,rfl,⟨⟨_,(World.putObj_heap_other hBl).trans hv4,?_⟩,World.putObj_heap_same hl4,(World.putObj_heap_other hDl).trans hK4,hb4.grown (grownBy_putObj_a _ _ _) hb4.size (fun k e=>by cases e;exact h0l)⟩,hk4.trans (KeepsWalks.putObj _ hL4 rfl)⟩;have:=hrow4.kept (grownBy_putObj_a w4 l (.loop {{apRec fn sv Bs D .ready none with state:= .busy}with state:=if(none:Option Code).isNone then .ready else .done,pending:=none})) (ownsRow_ne_a hrow4 hL4 (fun cur e=>by cases e));rw[yC];simpa using this
theorem Lz:∀args w,(callFunc 181 args).run Tryz.prog w= .ok (.enter 181 args) w:=enters_of Tryz.func181 (by kernel_rfl) rfl
theorem PD (n:Nat) (hn:2<=n) (lb:Array Value) (S:List ak->Prop) (N:Nat) (hN:N<=1000000) (w:World) (hseq:SeqGives Fence.wide (n - 1) Tryz.prog 181 lb aX S N w):
    CallsIn Fence.wide n Tryz.prog 204 #[.slice none 0 0, .func (.func 181) #[] lb] w fun e w'=>∃(v:Value) (ss:List ak),e= .returned v/\S ss/\w'.ownsRow w.heap.size 71 3 v ss.length (fa ss)/\Below w.heap.size w w':=by
  have h1:1<=n:=by omega
  refine callsIn_of_wp_marks Tryz.func204 rfl trivial ?_ rfl;simp only[Tryz.ntmps204,Bp,AX,Bc,Nat.reduceAdd,Nat.reduceSub,DB,DA,DN,DE,BE,BO];gi_wp2
  refine wpIn_rangeFunc ?_;intro fn hfn;obtain⟨W0,hW0⟩:∃W0,w.alloc (.cells #[.slice none 0 0] 36)=W0:=⟨_,rfl⟩;have hs0:W0.heap.size=w.heap.size+1:=by rw[<-hW0];simp
  have hv0:W0.heap[w.heap.size]? =some (.cells #[.slice none 0 0] 36 (0,0)):=by rw[<-hW0];exact World.alloc_heap_new w _
  have hb0:Below w.heap.size w W0:=by rw[<-hW0];exact(Below.refl _ w).alloc (Aj _) _
  rw[hW0];obtain⟨W1,hW1⟩:∃W1,(W0.alloc (.deferred (some []))).alloc (.loop (apRec fn (.func (.func 181) #[] lb) w.heap.size W0.heap.size .ready none))=W1:=⟨_,rfl⟩;have hold:∀k,k<W0.heap.size->W1.heap[k]? =W0.heap[k]? :=fun k hk=>by
    rw[<-hW1];exact(Below.heap_alloc _ _ k (by simp;omega)).trans (Below.heap_alloc _ _ k hk)
  have hb1:Below w.heap.size w W1:=by rw[<-hW1];exact(hb0.alloc hb0.size _).alloc (by have:=hb0.size;simp;omega) _
  have hs1:W1.heap.size=W0.heap.size+2:=by rw[<-hW1];simp
  have hM:qC w fn (.func (.func 181) #[] lb) w.heap.size (W0.heap.size+1) W0.heap.size [] W1:=
    ⟨⟨_,(hold w.heap.size (by omega)).trans hv0,⟨rfl, .inl ⟨rfl,rfl⟩⟩⟩,
     by rw[<-hW1];have:=World.alloc_heap_new (W0.alloc (.deferred (some []))) (.loop (apRec fn (.func (.func 181) #[] lb) w.heap.size W0.heap.size .ready none));rwa [World.size_alloc]at this,
     by rw[<-hW1];exact(Below.heap_alloc _ _ _ (by simp)).trans (World.alloc_heap_new W0 _),hb1⟩
  refine⟨W0.heap.size+1,[{target:= .collected W0.heap.size,args:=#[]}],W1,{target:= .fn (.func 181) lb,args:=#[.func (.yield (W0.heap.size+1)) #[] #[]]},W1,181,
    #[.func (.yield (W0.heap.size+1)) #[] #[]]++lb,W1,?_,?_,?_,?_,fun _=>h1,?_⟩
  . rw[<-hW1];exact run_enterLoop_outer _ _ _ _ _
  . simp[resolve,go_sem]
  . intro f' hf';simp[Target.leads]at hf';subst hf';trivial
  . simp[invoke,go_sem,Lz]
  . refine(hseq (W0.heap.size+1) (qC w fn (.func (.func 181) #[] lb) w.heap.size (W0.heap.size+1) W0.heap.size) W1 hb1 (JL _ _ _ _ _ _ _ hb1.size)
      (fun pre x W hJ hl=>PN (n - 1 - 1) w fn _ w.heap.size (W0.heap.size+1) W0.heap.size (by omega) (by omega) (by omega) (Aj _) (by omega) N hN pre x W hJ hl) hM).mono ?_
    rintro e W2 ⟨⟨v0,rfl⟩,ss,hS,h2⟩;obtain⟨v,hv,hrow⟩:=h2.box;have hend:=run_endLoop (P:=Tryz.prog) h2.L (by simp[apRec]);obtain⟨W3,hW3⟩:∃W3,W2.putObj (W0.heap.size+1) (.loop {apRec fn (.func (.func 181) #[] lb) w.heap.size W0.heap.size .ready none with state:= .exhausted})=W3:=⟨_,rfl⟩;rw[hW3]at hend;have hne:∀cur:Array Value,Obj.cells #[v] 36 (0,0)≠ .cells cur 71 (0,0):=fun cur e=>by
      have:=(Obj.cells.inj e).2.1;exact absurd this (by decide)
    have hg3:W2.grownBy W3 (some (W0.heap.size+1)):=by rw[<-hW3];exact grownBy_putObj_a _ _ _
    have hv3:W3.heap[w.heap.size]? =some (.cells #[v] 36 (0,0)):=by rw[<-hW3];exact(World.putObj_heap_other (by omega)).trans hv
    have hK3:W3.heap[W0.heap.size]? =some (.deferred (some [])):=by rw[<-hW3];exact(World.putObj_heap_other (by omega)).trans h2.K
    have hrow3:=hrow.kept hg3 (ownsRow_ne_a hrow h2.L (fun cur e=>by cases e));have hb3:Below w.heap.size w W3:=h2.below.grown hg3 h2.below.size (fun k e=>by cases e;omega);obtain⟨hc3,hf3⟩:=cell_of_box_a hv3;clear hW3;refine⟨none,W3,hend,?_⟩;gi_wp2
    rw[<-hs0];refine⟨by simp, .inl ⟨_,_,rfl,run_takeDeferred hK3,?_⟩⟩;exact⟨_,results_tmp rfl _ _ _,v,ss,rfl,hS,hrow3.kept (grownBy_putObj_a _ _ _) (ownsRow_ne_a hrow3 hK3 (fun cur e=>by cases e)),hb3.grown (grownBy_putObj_a _ _ _) hb3.size (fun k e=>by cases e;omega)⟩
theorem PR (n:Nat) (hn:3<=n) (lb:Array Value) (S:List ak->Prop) (N:Nat) (hN:N<=1000000) (w:World) (hseq:SeqGives Fence.wide (n - 1 - 1) Tryz.prog 181 lb aX S N w):
  CallsIn Fence.wide n Tryz.prog 179 #[.func (.func 181) #[] lb] w fun e w'=>∃(v:Value) (ss:List ak),e= .returned v/\S ss/\w'.ownsRow w.heap.size 71 3 v ss.length (fa ss)/\Below w.heap.size w w':=by
 have h1:1<=n:=by omega
 refine callsIn_of_wp Tryz.func179 rfl trivial ?_ rfl;simp only[Tryz.ntmps179,Bp,AX,Bc,Nat.reduceAdd,Nat.reduceSub,DB,DA,DN,DE,BE,BO];have hf253:Fence.wide.fn 204:=trivial;have hs:=PD (n - 1) (by omega) lb S N hN w hseq;gi_wp2_with (gi_at_call 204;refine hs.mono ?_;rintro e w' ⟨v,ss,rfl,hS,hrow,hb⟩)
 go_ret;exact⟨v,ss,rfl,hS,hrow,hb⟩
end Go.Proofs
namespace Go.Proofs
open Go.Shelf
def oP:Go.Shelf.Ren:=⟨fun|6=>180|15=>206|14=>205|28=>241|29=>242|20=>233|21=>234|22=>235|23=>236|24=>237|25=>238|26=>239|27=>240|46=>287|47=>288|48=>289|49=>290|50=>291|57=>328|n=>n,fun|22=>36|24=>71|25=>202|3=>3|39=>246|0=>0|53=>283|55=>285|4=>4|46=>277|45=>276|50=>160|5=>5|9=>9|66=>323|70=>327|76=>362|77=>363|n=>n,fun|n=>n⟩
theorem PW:Go.Proofs.SlLaysF0.n6 Tryz.prog oP:={
 mixed:=by kernel_rfl
 f6:=⟨Tryz.f180.name,by decide,Tryz.func180.trans (Ay some (by kernel_rfl))⟩
 f14:=⟨Tryz.f205.name,by decide,Tryz.func205.trans (Ay some (by kernel_rfl))⟩
 f15:=Tryz.func206.trans (Ay some (by kernel_rfl))
 f20:=⟨Tryz.f233.name,by decide,Tryz.func233.trans (Ay some (by kernel_rfl))⟩
 f21:=⟨Tryz.f234.name,by decide,Tryz.func234.trans (Ay some (by kernel_rfl))⟩
 f22:=⟨Tryz.f235.name,by decide,Tryz.func235.trans (Ay some (by kernel_rfl))⟩
 f23:=⟨Tryz.f236.name,by decide,Tryz.func236.trans (Ay some (by kernel_rfl))⟩
 f24:=⟨Tryz.f237.name,by decide,Tryz.func237.trans (Ay some (by kernel_rfl))⟩
 f25:=⟨Tryz.f238.name,by decide,Tryz.func238.trans (Ay some (by kernel_rfl))⟩
 f26:=⟨Tryz.f239.name,by decide,Tryz.func239.trans (Ay some (by kernel_rfl))⟩
 f27:=⟨Tryz.f240.name,by decide,Tryz.func240.trans (Ay some (by kernel_rfl))⟩
 f28:=Tryz.func241.trans (Ay some (by kernel_rfl))
 f29:=Tryz.func242.trans (Ay some (by kernel_rfl))
 f46:=⟨Tryz.f287.name,by decide,Tryz.func287.trans (Ay some (by kernel_rfl))⟩
 f47:=Tryz.func288.trans (Ay some (by kernel_rfl))
 f48:=Tryz.func289.trans (Ay some (by kernel_rfl))
 f49:=⟨Tryz.f290.name,by decide,Tryz.func290.trans (Ay some (by kernel_rfl))⟩
 f50:=⟨Tryz.f291.name,by decide,Tryz.func291.trans (Ay some (by kernel_rfl))⟩
 f57:=⟨Tryz.f328.name,by decide,Tryz.func328.trans (Ay some (by kernel_rfl))⟩
 t0:=Tryz.underlying0
 a0:=Tryz.isAgg0
 z0:=Tryz.sizeOf0
 v0:=Tryz.zeroValue0
 t3:=Tryz.underlying3
 a3:=Tryz.isAgg3
 z3:=Tryz.sizeOf3
 v3:=Tryz.zeroValue3
 t4:=Tryz.underlying4
 a4:=Tryz.isAgg4
 z4:=Tryz.sizeOf4
 v4:=Tryz.zeroValue4
 t5:=Tryz.underlying5
 a5:=Tryz.isAgg5
 z5:=Tryz.sizeOf5
 v5:=Tryz.zeroValue5
 t9:=Tryz.underlying9
 a9:=Tryz.isAgg9
 z9:=Tryz.sizeOf9
 v9:=Tryz.zeroValue9
 t22:=Tryz.underlying36
 a22:=Tryz.isAgg36
 z22:=Tryz.sizeOf36
 v22:=Tryz.zeroValue36
 t25:=Tryz.underlying202
 a25:=Tryz.isAgg202
 z25:=Tryz.sizeOf202
 v25:=Tryz.zeroValue202
 t39:=Tryz.underlying246
 a39:=Tryz.isAgg246
 z39:=Tryz.sizeOf246
 v39:=Tryz.zeroValue246
 t45:=Tryz.underlying276
 a45:=Tryz.isAgg276
 z45:=Tryz.sizeOf276
 v45:=Tryz.zeroValue276
 t46:=Tryz.underlying277
 a46:=Tryz.isAgg277
 z46:=Tryz.sizeOf277
 v46:=Tryz.zeroValue277
 t50:=Tryz.underlying160
 a50:=Tryz.isAgg160
 z50:=Tryz.sizeOf160
 v50:=Tryz.zeroValue160
 t53:=Tryz.underlying283
 a53:=Tryz.isAgg283
 z53:=Tryz.sizeOf283
 v53:=Tryz.zeroValue283
 t55:=Tryz.underlying285
 a55:=Tryz.isAgg285
 z55:=Tryz.sizeOf285
 v55:=Tryz.zeroValue285
 t66:=Tryz.underlying323
 a66:=Tryz.isAgg323
 z66:=Tryz.sizeOf323
 v66:=Tryz.zeroValue323
 t70:=Tryz.underlying327
 a70:=Tryz.isAgg327
 z70:=Tryz.sizeOf327
 v70:=Tryz.zeroValue327
 t76:=Tryz.underlying362
 a76:=Tryz.isAgg362
 z76:=Tryz.sizeOf362
 v76:=Tryz.zeroValue362
 t77:=Tryz.underlying363
 a77:=Tryz.isAgg363
 z77:=Tryz.sizeOf363
 v77:=Tryz.zeroValue363}
end Go.Proofs
namespace Go.Proofs
open Go Go.Am Go.RowKit Go.Sy Go.Gm Go.Maps Go.Sort Go.Shelf
section
theorem NY {w w':World} (h:Below w.heap.size w w') (hd:w.drawn<=w'.drawn):∃q os,w'=grow (w.drewN q) os:=by
 refine⟨w'.drawn - w.drawn,w'.heap.extract w.heap.size w'.heap.size,?_⟩;unfold grow World.drewN
 cases w' with
 | mk heap tape drawn os output=>
  obtain⟨h1,h2,h3,h4,h5⟩:=h;simp only at h1 h2 h3 h4 h5 hd⊢;subst h1;subst h2;subst h3;congr 1
  . apply BR
    intro i;rw[EK];split
    . rename_i hi;exact h5 i hi
    . rename_i hi;rw[Array.getElem?_extract];by_cases h6:i<heap.size
      . simp only[Nat.min_self];rw[An (by omega),show w.heap.size+(i - w.heap.size)=i by omega]
      . rw[Ai (by omega),DU (by omega)]
  . omega
def iB (x:ak):List Value:=[.int .i64 x.dev, .int .i64 x.inc, .int .i64 x.seq]
section
variable [Inhabited aI]
theorem NH:CO pc u4:=bZ (C:=u4) (cfg:=fun y=>cC qt (cM y)) bJ (fun _=>rfl) (fun _=>rD) (n:=400) (by
 rintro⟨x,y⟩ -
 (conv=>whnf)
 refine⟨(x,y),?_⟩
 repeat' (first|exact trivial|exact rfl|((conv=>whnf);first|(apply aE<;>intro)|apply And.intro)))
end
theorem NU:SWO (ltOf lT) where
 irrefl x:=by
  have:= @pE ⟨⟨True,#[]⟩⟩ x;exact this
 trans x y z h1 h2:= @sQ ⟨⟨True,#[]⟩⟩ x y z h1 h2
 ntrans x y z h1 h2:=by
  letI:Inhabited aI:=⟨⟨True,#[]⟩⟩
  have h1:¬bR x y=true:=by rw[Eg];exact h1
  have h2:¬bR y z=true:=by rw[Eg];exact h2
  show bR x z=false
  rw[<-Eg];rw[qZ]at*;omega
theorem E4 {Fz:Nat->Option AO} {n:Nat} (x:ak) [Inhabited aI]:aL Fz (.agg x.enc) (eY n (.agg (iB x).toArray)):=xF [x.dev,x.inc,x.seq]
theorem Ps (aN off size:Nat) (w:World):CmpLays Tryz.prog 154 #[] iB 3 lT aN off size w:=by
 intro m os dk _ x y;letI:Inhabited aI:=⟨⟨True,#[]⟩⟩
 have h:=mY bJ.ok NH (fn:=Tryz.f154) (hfn:=by kernel_rfl) (hb:=rfl) (y:=(x,y)) trivial (args:=[.agg (iB x).toArray, .agg (iB y).toArray]) (w:=sortWorldK iB 3 w aN off m dk os) (PL.cons (E4 x) (PL.cons (E4 y) PL.nil)) (ef.pB rfl _);refine Calls.mono h ?_;rintro e w' ⟨v,rfl,hv,hbel,hd⟩;have hv:v= .int .i64 (lT x y):=iz hv;exact⟨by rw[hv],NY hbel (hd trivial)⟩
theorem Re:∀w,(isAgg (oP.t 24)).run Tryz.prog w= .ok true w:=fun w=>by kernel_rfl
theorem QP:∀w,(Go.sizeOf (oP.t 24)).run Tryz.prog w= .ok 3 w:=fun w=>by kernel_rfl
theorem vy (x:ak):∀v∈iB x,v.oneCell'=true:=by
 intro v hv;simp only[iB,Al,BZ,DP]at hv;rcases hv with rfl|rfl|rfl<;>rfl
theorem QY (aN off cap:Nat) (d:Array ak) (w:World) (hH:HoldsK iB 3 w aN off d) (hblk:aN<w.heap.size) (hsz:d.size<4611686018427387904):
  Calls Tryz.prog 180 #[.slice (some ⟨aN,off,none⟩) d.size cap, .func (.func 154) #[] #[]] w fun e w'=>e= .returned (.tuple #[])/\ ∃d' n os,PermIn 0 d.size d d'/\SortedIn (ltOf lT) 0 d.size d'/\w'=sortWorldK iB 3 w aN off n d' os:=
 AnyQ.slices_SortFunc PW 3 Re QP iB (fun _=>rfl) vy lT NU 154 #[] aN off cap d w (enters_of Tryz.func154 (by kernel_rfl) rfl) (Ps aN off d.size w) hH hblk hsz
end
section
section
variable [Inhabited aI]
def Gp (g:FuncId):aQ:={Y:=Unit,pre:=fun _=>True,args:=fun _=>[.nils, .fn g [] []],res:=fun _=> .bj []}
theorem NG:CO yu (Gp pc):=bZ (C:=Gp pc) (cfg:=fun y=>cC qt (cM y)) bJ (fun _=>rfl) (fun _=>rD) (n:=3000) (by
 rintro⟨⟩ -
 (conv=>whnf)
 trivial)
end
theorem KZ [Inhabited aI] {P:Program} {tab:bc} (ok:bD P tab) {f:FuncId} {C:aQ} (hc:Go.Sy.ch P tab f C) {fn:Func} {body:Code} (hfn:tab.fns.get f=some fn) (hb:fn.body=some body) {y:C.Y} (hy:C.pre y) {args:List Value} {avs:List AV} (hconc:∀E,aV E avs=args) {w:World}
  (hs:PL (bV tab w).get (C.args y) avs) (hw:ef w):Calls P f args.toArray w (fun e w'=>∃v,e= .returned v/\Rd w' (fun _=>True) true (C.res y) v/\Below w.heap.size w w'/\((default:aI).dr->w.drawn<=w'.drawn)):=by
 intro cs;have hP:=ok.fns f fn hfn;have hdom:∀i o,(bV tab w).get i=some o->i<(bV tab w).next:=fun i o hi=>(ow tab w (E:=⟨fun i=>i,fun _=>0⟩) (fun _ _=>rfl)).dM i o hi
 let E:Env:=⟨fun i=>i,fun _=>0⟩
 let D:Nat->Prop:=fun i=>i<w.heap.size
 have hag:∀E',aj D E E'->∀i,i<w.heap.size->E'.aN i=i:=fun E' he i hi=>(he i hi).1
 have hR:Rel D E (KS.old w.heap.size) {fr:=af.enter fn f body avs .normal,cs:=[],h:=bV tab w} cs (Frame.enter P f args.toArray .normal) cs w:=by
  refine⟨fun E' he=>⟨ow tab w (hag E' he),?_,rfl⟩,fun i h=>h,rq _ _ _ _ _,fun f hf=>by cases hf⟩;rw[<-mo hP hb,hconc]
 obtain⟨v,h',⟨Fz',_,f2,hsim,_⟩,fr',w',v',E',D',s1,s2,s3,s4,s5,s6,s7,s8,s9,s10⟩:=hc fn body hfn hb y hy (bV tab w).get (bV tab w) _ (fun _ _ h=>h) hdom hs.1 hs.2 D E _ cs _ cs w hR hw.kv;obtain⟨g1,g2⟩:=s4 E' (aj.refl _ _);subst g2;exact⟨.returned (ab E' v),w',fr',⟨_,rfl,th g1 f2 hsim,⟨s8.os,s8.tape,s8.output,s8.size,s8.block⟩,s8.drawn⟩,s1,s2,s3⟩
theorem NQ [Inhabited aI] {w:World} {p:Nat->Prop} {g:Bool} {v:Value} (h:Rd w p g (.bj []) v):v= .tuple #[]:=by
 cases h with
 | @bj cs vs h1 h2=>
  obtain⟨l⟩:=vs;match l,h1 with
  |[],_=>rfl
theorem QX (w:World):Calls Tryz.prog 180 #[.slice none 0 0, .func (.func 154) #[] #[]] w fun e w'=>e= .returned (.tuple #[])/\Below w.heap.size w w':=by
 letI:Inhabited aI:=⟨⟨True,#[]⟩⟩
 refine Calls.mono (KZ bJ.ok NG (fn:=Tryz.f180) (hfn:=rfl) (hb:=rfl) (y:=()) trivial (args:=[.slice none 0 0, .func (.func 154) #[] #[]]) (avs:=[.nils, .fn (.func 154) [] []]) (fun E=>by simp[ab]) (w:=w) (PL.cons .nils (PL.cons (.fn (xs:=[]) (ys:=[]) (us:=[]) (vs:=[]) rfl rfl (fun i x u h=>(by simp at h)) (fun i x u h=>(by simp at h))) PL.nil)) (ef.pB rfl _)) ?_;rintro e w' ⟨v,rfl,hv,hb,_⟩;exact⟨by rw[NQ hv],hb⟩
end
end Go.Proofs
namespace Go.Gm
open Go Go.RowKit Go.Maps Go.Proofs Go.ChangeMaps
section
variable {P:Program} {K V:Type} [DecidableEq K]
theorem IH {es:List MapEntry} (hs:(es.map (·.born)).Pairwise (· < ·)) {j:Nat} (hj:j<es.length) {n:Nat} (hn:es[j].born=n):es.findIdx? (fun e=>((e.born:Int)==(n:Int)))=some j:=by
 rw[D9];refine⟨hj,by simp[hn],fun i hi=>?_⟩;have hp:=Bf.1 hs i j (by simp;omega) (by simpa using hj) hi;simp only[List.getElem_map]at hp;simp;omega
theorem yE {es:Array MapEntry} (hs:(es.toList.map (·.born)).Pairwise (· < ·)) {j:Nat} (hj:j<es.size) {n:Nat} (hn:es[j].born=n):es.findIdx? (fun e=>((e.born:Int)==(n:Int)))=some j:=by
 obtain⟨l⟩:=es;rw[List.findIdx?_toArray];exact IH hs hj hn
theorem aw.entry {w:World} {b:Nat} {enc:K->Value} {encV:V->Value} {L:List (K×V)} (h:aw w b enc encV L) {T Te t:TypeId} (hK:KeyLaw P T enc) (ht:P.underlying t=some (.map T Te)) {z:V} (hz:∀w:World,(zeroValue Te).run P w= .ok (encV z) w) (k:K) (val:V):
  ∃ (v:Value) (n:Nat) (o o':Obj),(Instr.mapEntry t (.map (some b)) (enc k)).run P w= .ok (.tuple #[v,goInt n]) (World.aJ w b o)/\(Instr.entryStore t (.map (some b)) (goInt n) (encV val)).run P (World.aJ w b o)= .ok () (World.aJ (World.aJ w b o) b o')/\jO (World.aJ w b o) b/\
    aw (World.aJ (World.aJ w b o) b o') b enc encV (bN L k val)/\(aw (World.aJ w b o) b enc encV L\/k∉L.map (·.1)/\aw (World.aJ w b o) b enc encV (L++[(k,z)])):=by
 obtain⟨⟨es,clk,hb,hr,hs,hc⟩,hnd⟩:=h;have hf:=mj hK k w es.toList L hr;have hgo:(getObj b).run P w= .ok (.map es clk) w:=by simp[getObj,Sem.run,hb]
 cases e:idxOf k encV L 0 with
 |none=>
  have hk:=ft.1 e;have h1:(Instr.mapEntry t (.map (some b)) (enc k)).run P w= .ok (.tuple #[encV z,goInt clk]) (World.aJ w b (.map (es.push ⟨enc k,encV z,clk⟩) (clk+1))):=by
    unfold Instr.mapEntry;simp only[Sem.run_bind,run_underlying ht,Result.andThen_ok,hgo,hK.gA,hf,e,hz,nm hb,Sem.run_pure]
  have hb1:(World.aJ w b (.map (es.push ⟨enc k,encV z,clk⟩) (clk+1))).heap[b]? =some (.map (es.push ⟨enc k,encV z,clk⟩) (clk+1)):=by rw[kH hb,An rfl]
  have hgo1:(getObj b).run P (World.aJ w b (.map (es.push ⟨enc k,encV z,clk⟩) (clk+1)))= .ok (.map (es.push ⟨enc k,encV z,clk⟩) (clk+1)) (World.aJ w b (.map (es.push ⟨enc k,encV z,clk⟩) (clk+1))):=by simp[getObj,Sem.run,hb1]
  have hbig:(((es.push ⟨enc k,encV z,clk⟩).toList.map (·.born)).Pairwise (· < ·)):=by
    rw[BW,AF,D0];refine⟨hs,by simp,fun a ha c hc'=>?_⟩;obtain⟨x,hx,rfl⟩:=Ar.1 ha;simp at hc';subst hc';exact hc x hx
  have hfi:(es.push ⟨enc k,encV z,clk⟩).findIdx? (fun e=>((e.born:Int)==(clk:Int)))=some es.size:=by
    exact yE hbig (j:=es.size) (by simp) (by simp)
  have h2:∀x:Value,(Instr.entryStore t (.map (some b)) (goInt clk) x).run P (World.aJ w b (.map (es.push ⟨enc k,encV z,clk⟩) (clk+1)))= .ok () (World.aJ (World.aJ w b (.map (es.push ⟨enc k,encV z,clk⟩) (clk+1))) b (.map ((es.push ⟨enc k,encV z,clk⟩).modify es.size fun e=>{e with val:=x}) (clk+1))):=fun x=>by
    unfold Instr.entryStore;simp only[Sem.run_bind,hgo1,Result.andThen_ok,asInt,asIntOf,goInt,Sem.run_pure,hfi,nm hb1]
  have hmod:((es.push ⟨enc k,encV z,clk⟩).modify es.size fun e=>{e with val:=encV val}).toList=es.toList++[⟨enc k,encV val,clk⟩]:=by
    rw[De,BW];apply BB
    intro i;rw[Dz];by_cases hi:es.size=i
    . subst hi;simp[<-Array.length_toList]
    . rcases DT i es.size with h'|h'
      . simp[hi,AL,h']
      . obtain⟨m,hm⟩:∃m,i - es.size=m+1:=⟨i - es.size - 1,by omega⟩;simp[hi,A3,h',hm]
  refine⟨_,clk,_,_,h1,h2 (encV val),⟨_,_,hb1⟩,⟨⟨_,_,by rw[kH hb1,An rfl],?_,?_,?_⟩,rj hnd k val⟩, .inr ⟨hk,⟨_,_,hb1,?_,hbig,?_⟩,?_⟩⟩
  . unfold bN fV;rw[Ai hk,hmod,AF,AF,hr];rfl
  . rw[hmod,AF,D0];refine⟨hs,by simp,fun a ha c hc'=>?_⟩;obtain⟨x,hx,rfl⟩:=Ar.1 ha;simp at hc';subst hc';exact hc x hx
  . intro x hx;rw[hmod,A6]at hx;rcases hx with hx|hx
    . have:=hc x hx;omega
    . simp at hx;subst hx;exact Dw _
  . unfold fV;rw[BW,AF,AF,hr];rfl
  . intro x hx;rw[BW,A6]at hx;rcases hx with hx|hx
    . have:=hc x hx;omega
    . simp at hx;subst hx;exact Dw _
  . have:=rj hnd k z;unfold bN at this;rwa [Ai hk]at this
 |some q=>
  obtain⟨j,u⟩:=q;obtain⟨n,hj,hn,g1,g2,_⟩:=tL e;simp only[AG]at hj;subst hj;have hlen:es.size=L.length:=by simpa using Ay List.length hr
  have hn':j<es.size:=by omega
  have hkey:es[j].key=enc k:=by
    have:=Ay (fun l=>(l[j]?).map Prod.fst) hr;simp[hn',hn]at this;rw[this,g1]
  have hks:(Instr.keyThatStays (((es[j]?).map fun x:MapEntry=>x.key).getD (enc k)) (enc k)).run P w= .ok (enc k) w:=by
    simp[hn',hkey,Instr.keyThatStays,hK.bits]
  have hsame:(es.modify j fun e=>{e with key:=enc k})=es:=by
    apply BR
    intro i;rw[Dt];by_cases hi:j=i
    . subst hi;rw[An rfl,AN hn'];simp only[A0,<-hkey]
    . rw[Ai hi]
  have h1:(Instr.mapEntry t (.map (some b)) (enc k)).run P w= .ok (.tuple #[u,goInt es[j].born]) (World.aJ w b (.map es clk)):=by
    unfold Instr.mapEntry;simp only[Sem.run_bind,run_underlying ht,Result.andThen_ok,hgo,hK.gA,hf,e,hks,hsame,nm hb,Sem.run_pure];simp[hn']
  have hb1:(World.aJ w b (.map es clk)).heap[b]? =some (.map es clk):=by rw[kH hb,An rfl]
  have hgo1:(getObj b).run P (World.aJ w b (.map es clk))= .ok (.map es clk) (World.aJ w b (.map es clk)):=by simp[getObj,Sem.run,hb1]
  have hfi:es.findIdx? (fun e=>((e.born:Int)==(es[j].born:Int)))=some j:=by
    exact yE hs (j:=j) hn' rfl
  have h2:∀x:Value,(Instr.entryStore t (.map (some b)) (goInt es[j].born) x).run P (World.aJ w b (.map es clk))= .ok () (World.aJ (World.aJ w b (.map es clk)) b (.map (es.modify j fun e=>{e with val:=x}) clk)):=fun x=>by
    unfold Instr.entryStore;simp only[Sem.run_bind,hgo1,Result.andThen_ok,asInt,asIntOf,goInt,Sem.run_pure,hfi,nm hb1]
  have hput:bN L k val=L.set j (k,val):=by
    have:=F9 hnd hn val;rw[g1]at this;exact this
  have hborn:(es.modify j fun e=>{e with val:=encV val}).toList.map (·.born)=es.toList.map (·.born):=by
    apply BB
    intro i;rw[Az,Az,De,Dz];by_cases h:j=i
    . simp[h,BD]
    . simp[h]
  refine⟨_,es[j].born,_,_,h1,h2 (encV val),⟨_,_,hb1⟩,⟨⟨_,_,by rw[kH hb1,An rfl],?_,by rw[hborn];exact hs,fun x hx=>?_⟩,rj hnd k val⟩, .inl ⟨⟨_,_,hb1,hr,hs,hc⟩,hnd⟩⟩
  . rw[hput];unfold fV at hr⊢;apply BB
    intro i;have hri:=Ay (fun l=>l[i]?) hr;simp only[Az]at hri⊢;rw[De,Dz,Ec];by_cases h:j=i
    . subst h;simp[hn,hn',hkey]
    . simp only[h,AP];simpa using hri
  . have hm:x.born∈(es.modify j fun e=>{e with val:=encV val}).toList.map (·.born):=Ar.2 ⟨x,hx,rfl⟩;rw[hborn]at hm;obtain⟨y,hy,he⟩:=Ar.1 hm;rw[<-he];exact hc y hy
end
end Go.Gm
namespace Go.Proofs
open Go Go.Am Go.RowKit Go.Sy Go.Gm Go.Maps Go.Sort Go.Shelf
theorem tH (l:List ak) {j:Nat} (hj:j<l.length*3):(fa l)[j]? =some ((iB l.toArray[j / 3]!)[j % 3]!):=by
 have hi:j / 3<l.length:=by omega
 obtain⟨e0,e1,e2⟩:=qY l (j / 3) hi;have hg:l.toArray[j / 3]! =l[j / 3]:=by rw[Ez _ _ (by simpa using hi)];simp
 rw[hg];rcases(by omega:j=j / 3*3\/j=j / 3*3+1\/j=j / 3*3+2)with e|e|e
 . have hm:j % 3=0:=by omega
   rw[hm];conv=>lhs;rw[e]
   exact e0
 . have hm:j % 3=1:=by omega
   rw[hm];conv=>lhs;rw[e]
   exact e1
 . have hm:j % 3=2:=by omega
   rw[hm];conv=>lhs;rw[e]
   exact e2
theorem Gz {w:World} {g:Nat} {cur:Array Value} {l:List ak} (hg:w.heap[g]? =some (.cells cur 71 (0,0))) (h4:cur.toList.take (l.length*3)=fa l):HoldsK iB 3 w g 0 l.toArray:=by
 intro j hj;have hj':j<l.length*3:=by simpa using hj
 have h2:=Ay (fun l=>l[j]?) h4;simp only[Bh,An hj',BS]at h2;rw[tH l hj']at h2;constructor
 . unfold World.cell?
   simp only[hg,A2,Ao,AP,AG];rw[h2,get_flatK iB 3 l.toArray j (by simpa using hj')];rfl
 . unfold World.frozen?
   simp[hg]
theorem Km {w:World} {g:Nat} {l:List ak} {c:Nat} (hc:l.length<=c) (h:HoldsK iB 3 w g 0 l.toArray):cy w l (.slice (some ⟨g,0,none⟩) l.length c):=by
 by_cases h0:l=[]
 . subst h0;exact .inl ⟨rfl,_,_,rfl⟩
 have hlen:0<l.length:=Bb.2 h0;have hcell:∀j,j<l.length*3->w.cell? ⟨g,j,none⟩=(fa l)[j]? :=fun j hj=>by
   have:=(h j (by simpa using hj)).1;rw[AG]at this;rw[this,tH l hj,get_flatK iB 3 l.toArray j (by simpa using hj)];rfl
 have h1:=hcell 0 (by omega);have hb:∃arr e fz,w.heap[g]? =some (.cells arr e fz):=by
   rw[tH l (by omega)]at h1;unfold World.cell? at h1
   cases e:w.heap[g]? with
   |none=>simp[e]at h1
   |some o=>
    cases o with
    |cells arr t fz=>exact⟨arr,t,fz,rfl⟩
    |_=>simp[e]at h1
 obtain⟨arr,e,fz,hb⟩:=hb;have harr:∀j,j<l.length*3->arr[j]? =(fa l)[j]? :=fun j hj=>by
   have:=hcell j hj;unfold World.cell? at this;simp only[hb,A2,Ao,AP]at this;exact this
 refine .inr ⟨g,0,c,arr,e,fz,rfl,hb,hc,?_,fun i hi=>?_⟩
 . have:=harr (l.length*3 - 1) (by omega);rw[tH l (by omega)]at this;have:=(Ac.1 this).1;omega
 . obtain⟨e0,e1,e2⟩:=qY l i hi;rw[AG];exact⟨(harr _ (by omega)).trans e0,(harr _ (by omega)).trans e1,(harr _ (by omega)).trans e2⟩
theorem Kc {l:List ak} (hn:l.Nodup) {d':Array ak} (hp:PermIn 0 l.toArray.size l.toArray d') (hs:SortedIn (ltOf lT) 0 l.toArray.size d'):d'.toList=de bR l/\d'.size=l.length:=by
 letI:Inhabited aI:=⟨⟨True,#[]⟩⟩
 obtain⟨h1,_,h3⟩:=hp;have hsz:d'.size=l.length:=by simpa using h1
 have hperm:d'.toList.Perm l:=by
   rw[show d'.extract 0 l.toArray.size=d' by rw[<-h1];simp]at h3;simpa using h3
 have hnd:d'.toList.Nodup:=hperm.nodup_iff.2 hn;refine⟨rn ?_ fun x=>hperm.mem_iff,hsz⟩;rw[Bf];intro i j hi hj hij;simp only[Array.length_toList]at hi hj;have:=hs i j (Ax _) hij (by simp;omega);rw[Ez d' j hj,Ez d' i hi]at this;have hlt:bR d'[j] d'[i]=false:=this;have hne:d'[i]≠d'[j]:=by
   have:=Bf.1 hnd i j (by simpa using hi) (by simpa using hj) hij;simpa using this
 simp only[Array.getElem_toList];rcases vQ d'[i] d'[j]with h|h|h
 . exact h
 . exact absurd h hne
 . rw[hlt]at h;cases h
theorem IN (w:World) (g off n:Nat) (d:Array ak) (os:Array Obj) {B:Nat} (hg:B<=g) (hB:B<=w.heap.size):Below B w (sortWorldK iB 3 w g off n d os):=by
 refine⟨rfl,rfl,rfl,size_sortWorldK_c iB 3 w g off n d os,fun k hk=>?_⟩;unfold sortWorldK grow putRowK putRow mapBlock Sort.ahead;simp only;rw[Array.getElem?_append_left (by simp;omega)];rw[Dt];rw[Ai (by omega)]
theorem PJ {w:World} {base:Nat} {v:Value} {l:List ak} (hn:l.Nodup) (h:w.ownsRow base 71 3 v l.length (fa l)) (hl:l.length<=1000000) (hbase:base<=w.heap.size):
   Calls Tryz.prog 180 #[v, .func (.func 154) #[] #[]] w fun e w'=>e= .returned (.tuple #[])/\cy w' (de bR l) v/\iY base (de bR l) v/\Below base w w':=by
 rcases h.2 with⟨rfl,h0⟩|⟨g,cap,cur,rfl,hbg,hg,h1,h2,h3,h4⟩
 . have hl0:l=[]:=Bj.1 h0;subst hl0;refine(QX w).mono ?_;rintro e w' ⟨rfl,hb⟩;exact⟨rfl, .inl ⟨rfl,_,_,rfl⟩, .inl rfl,hb.mono hbase⟩
 . have hgl:=(Ac.1 hg).1;have hs:=QY g 0 cap l.toArray w (Gz hg h4) hgl (by simp;omega);rw[show l.toArray.size=l.length by simp]at hs;refine hs.mono ?_;rintro e w' ⟨rfl,d',n,os,hp,hso,rfl⟩;obtain⟨hd,hsz⟩:=Kc hn (d':=d') (by simpa using hp) (by simpa using hso);have hH:=holdsK_sortWorldK_c iB 3 w g 0 l.toArray d' n os (Gz hg h4) hgl (by simp[hsz]);have hlen:(de bR l).length=l.length:=by rw[<-hd];simpa using hsz
   refine⟨rfl,?_, .inr ⟨g,0,_,_,rfl,hbg⟩,IN w g 0 n d' os hbg hbase⟩;rw[<-hlen];refine Km (by omega) ?_;rw[<-hd];simpa using hH
end Go.Proofs
namespace Go.Proofs
open Go Go.Am Go.RowKit Go.Sy Go.Gm
def kK:ae:=⟨⟨0,0,0⟩,⟨0,0,0⟩,0,⟨[],[],[]⟩,⟨[],false,false,false,false,0,0,0⟩,[]⟩
def c7:Array Value:=#[.int .i64 0, .int .i64 0, .int .i64 0, .int .i64 0, .int .i64 0, .int .i64 0, .int .i64 0, .string ⟨#[]⟩, .string ⟨#[]⟩, .string ⟨#[]⟩, .string ⟨#[]⟩, .bool false, .bool false, .bool false, .bool false, .int .i64 0, .int .i64 0, .int .i64 0, .slice none 0 0]
theorem G5 {w:World} {bk:Nat} {L:List (ak×(Value×ae))} (hm:aw w bk aX iU L) (d:ak):(Instr.lookup 83 (.map (some bk)) (aX d) true).run Tryz.prog w= .ok (.tuple #[((az L d).map (·.1)).getD (fM kK (.slice none 0 0)), .bool (az L d).isSome]) w:=by
 rw[hm.lookup fJ Tryz.underlying83 (z:=fM kK (.slice none 0 0)) (by kernel_rfl) d true]
 cases az L d<;>rfl
theorem sJ {B:Nat} {w0:World} {b:Nat} (hb:B<=b):∀(vs:List Value) (o:Nat) (w:World),Below B w0 w->Below B w0 (w.setCells b o vs)
 |[],_,_,h=>h
 |v::r,o,w,h=>by
  rw[World.setCells];exact sJ hb r (o+1) _ (h.setCell hb v)
theorem Js (W:World):(W.alloc (.cells c7 75)).drew.there W.heap.size 0 19:=fun j hj=>by
 have h:(W.alloc (.cells c7 75)).drew.heap[W.heap.size]? =some (.cells c7 75 (0,0)):=by
   show(W.alloc (.cells c7 75)).heap[W.heap.size]? =_
   rw[kJ,An rfl]
 have hs:c7.size=19:=rfl;constructor
 . unfold World.cell?
   simp only[h,AG,A2,Ao,AP];rw[AN (by omega)];rfl
 . unfold World.frozen?
   simp only[h];simp
theorem PY (W:World) (e:ae) (v:Value) (hv:v.oneCell'=true):∃W4,(fM e v).cells.size=19/\(storeCells ⟨W.heap.size,0,none⟩ (fM e v).cells.toList).run Tryz.prog (W.alloc (.cells c7 75)).drew= .ok () W4/\Below W.heap.size W W4/\
  W4.cell? ⟨W.heap.size,6,none⟩=some (.int .i64 e.kind)/\W4.cell? ⟨W.heap.size,7,none⟩=some (da e.key.name)/\W4.cell? ⟨W.heap.size,8,none⟩=some (da e.key.domain)/\W4.cell? ⟨W.heap.size,9,none⟩=some (da e.key.path):=by
 have hth:=Js W;have hr:=World.rangeAt_setCells_same (W.alloc (.cells c7 75)).drew W.heap.size 0 [.int .i64 e.dot.dev, .int .i64 e.dot.inc, .int .i64 e.dot.seq, .int .i64 e.bY.wall, .int .i64 e.bY.count, .int .i64 e.bY.dev, .int .i64 e.kind,da e.key.name,da e.key.domain,da e.key.path,
  da e.aa.value, .bool e.aa.aR, .bool e.aa.bG, .bool e.aa.aS, .bool e.aa.persistent, .int .i64 e.aa.bp, .int .i64 e.aa.aG, .int .i64 e.aa.access,v] hth
 refine⟨_,rfl,run_storeCells_cells (P:=Tryz.prog) W.heap.size 0 (fM e v).cells.toList 0 _ (fun j hj=>(by simpa using(hth j hj).1)) (fun j hj=>(by simp)) ?_,sJ (Aj _) _ _ _ ((Below.refl W.heap.size W).alloc (Aj _) _).drew,hr 6 _ rfl,hr 7 _ rfl,hr 8 _ rfl,hr 9 _ rfl⟩;intro x hx;rw[wG]at hx;simp only[Value.cells,Al,BZ,DP]at hx;rcases hx with rfl|rfl|rfl|rfl|rfl|rfl|rfl|rfl|rfl|rfl|rfl|rfl|rfl|rfl|rfl|rfl|rfl|rfl|rfl
 all_goals first|exact hv|rfl
end Go.Proofs
