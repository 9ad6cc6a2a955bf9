/- Part 11: an evaluator, proved sound, and its use at this seat; no condition. -/
import Derived.IntWalk
import Derived.WalkKit
import Derived.Deep.RegionWith
import Derived.Maps.RangeWalk
import Derived.Shelf.SlIter.Collect
import Derived.OwnWalk
import Derived.Deep.LoopGhost
import Derived.Lib.Walk
import Derived.Lib.SliceRun
import Derived.Test.YtmfohfbdddlilaaGreatP7
import Derived.Test.YtmfohfbdddlilaaGreatP8
import Derived.Test.YtmfohfbdddlilaaGreatP10
set_option linter.unusedSimpArgs false
set_option linter.unusedVariables false
set_option linter.unusedSectionVars false
set_option linter.deprecated false
set_option maxRecDepth 100000
set_option maxHeartbeats 4000000
namespace Go.Proofs
open Go Go.Am Go.RowKit Go.Sy Go.Gm
theorem JT (a i n:Int) (w:World):Calls Tryz.prog 107 #[.agg #[.int .i64 a, .int .i64 i, .int .i64 n]] w fun e w'=>e= .returned (.bool (eL ⟨a,i,n⟩))/\Below w.heap.size w w':=
 sT (C:=fun I=>sS eL) (fun I=> @Jq I) (hfn:=rfl) (hb:=rfl) (args:=[.agg #[.int .i64 a, .int .i64 i, .int .i64 n]]) (fun I=>⟨⟨a,i,n⟩,trivial,⟨rfl,fun j c v hc hv=>by
  match j with
  |0=>cases hc;cases hv;exact yF [a,i,n]
  |_+1=>cases hc⟩,rfl⟩)
theorem MK {a i n:Int} (hd:eL ⟨a,i,n⟩=true):IntKind.i64.wrap (n - 1)=n - 1:=by
 letI:Inhabited aF:=⟨⟨True,#[]⟩⟩
 have h:bG 1 n=true/\bG n 4294967296=true:=by
  unfold eL at hd;simp only[Ab]at hd;exact⟨hd.1.2,hd.2⟩
 rw[fg,fg,Ae,Ae]at h;exact IntWalk.i64_in _ (by omega)
theorem R6 {w:World} {bs bv:Nat} {L:List ((Int×Int)×Int)} (hs:w.cell? ⟨bs,0,none⟩=some (.map (some bv))) (hm:au w bv ep ch L) (a i n:Int) (hne:bs≠bv) (hd:eL ⟨a,i,n⟩=true) (hlt:(aw L (a,i)).getD 0=n - 1):
    Calls Tryz.prog 69 #[.pointer (some ⟨bs,0,none⟩), .agg #[.int .i64 a, .int .i64 i, .int .i64 n]] w fun e w'=>e= .returned (.bool true)/\eE (· =bv) w w'/\au w' bv ep ch (bN L (a,i) n):=by
  have hc:=fun w=>JT a i n w
  rw[hd]at hc;have hbv:bv<w.heap.size:=by
    obtain⟨es,clk,h,_⟩:=hm.at_;exact(Ac.1 h).1
  have hbs:bs<w.heap.size:=by
    unfold World.cell? at hs
    cases h:w.heap[bs]? with
    |none=>simp[h]at hs
    |some o=>exact(Ac.1 h).1
  go_enter Tryz.func69,Tryz.ntmps69
  go_wp2_with fail
  have hq:Below w.heap.size w (w.alloc (.cells #[.int .i64 a, .int .i64 i, .int .i64 n] 35)).drew:=((Below.refl w.heap.size w).alloc (Ah _) _).drew;have hsz:(w.alloc (.cells #[.int .i64 a, .int .i64 i, .int .i64 n] 35)).drew.heap.size=w.heap.size+1:=by simp
  have hn0:(w.alloc (.cells #[.int .i64 a, .int .i64 i, .int .i64 n] 35)).drew.cell? ⟨w.heap.size,0,none⟩=some (.int .i64 a):=by simp
  have hn1:(w.alloc (.cells #[.int .i64 a, .int .i64 i, .int .i64 n] 35)).drew.cell? ⟨w.heap.size,1,none⟩=some (.int .i64 i):=by simp
  have hn2:(w.alloc (.cells #[.int .i64 a, .int .i64 i, .int .i64 n] 35)).drew.cell? ⟨w.heap.size,2,none⟩=some (.int .i64 n):=by simp
  have hw:IntKind.i64.wrap (n - 1)=n - 1:=MK hd;have hge:∀{x:World} (_:x.cell? ⟨bs,0,none⟩=some (.map (some bv))) (_:au x bv ep ch L),Calls Tryz.prog 67 #[.pointer (some ⟨bs,0,none⟩), .agg #[.int .i64 a, .int .i64 i]] x fun e w'=>e= .returned (.int .i64 (n - 1))/\Below x.heap.size x w':=fun h1 h2=>by
    have:=kz h1 h2 a i;rw[hlt]at this;exact this
  go_region_with (first
   |(go_at_call 107;refine(hc _).mono ?_;rintro e w1 ⟨rfl,hb⟩;have hq1:=hq.trans (hb.mono (by rw[hsz];omega));have hs1:w1.cell? ⟨bs,0,none⟩=some (.map (some bv)):=(hq1.cell hbs).trans hs;have hm1:au w1 bv ep ch L:=hm.same (hq1.block bv hbv);have hz1:=hb.size;have hb0:=(hb.cell (p:=⟨w.heap.size,0,none⟩) (by rw[hsz];show w.heap.size<_;omega)).trans hn0;have hb1:=(hb.cell (p:=⟨w.heap.size,1,none⟩) (by rw[hsz];show w.heap.size<_;omega)).trans hn1;have hb2:=(hb.cell (p:=⟨w.heap.size,2,none⟩) (by rw[hsz];show w.heap.size<_;omega)).trans hn2)
   |(go_at_call 67;refine(hge (by assumption) (by assumption)).mono ?_;rintro e w2 ⟨rfl,hc2⟩;have hq2:=hq1.trans (hc2.mono (by rw[hsz]at hz1;omega));have hs2:w2.cell? ⟨bs,0,none⟩=some (.map (some bv)):=(hq2.cell hbs).trans hs;have hm2:au w2 bv ep ch L:=hm.same (hq2.block bv hbv);have hc0:=(hc2.cell (p:=⟨w.heap.size,0,none⟩) (by rw[hsz]at hz1;show w.heap.size<_;omega)).trans hb0;have hc1:=(hc2.cell (p:=⟨w.heap.size,1,none⟩) (by rw[hsz]at hz1;show w.heap.size<_;omega)).trans hb1;have hc2':=(hc2.cell (p:=⟨w.heap.size,2,none⟩) (by rw[hsz]at hz1;show w.heap.size<_;omega)).trans hb2)
   |(go_at_call 111;refine(Sq hs2 hm2 a i n hne hd (by omega)).mono ?_;rintro e w3 ⟨rfl,hbut,hm3⟩))
  all_goals (go_wp2)
  all_goals (go_ret)
  all_goals (exact⟨rfl,(kA hq2).trans hbut,hm3⟩)
section
def iG (w w':World):Prop:=∀(b:Nat) (arr:Array Value) (e:TypeId) (fz:Nat×Nat),w.heap[b]? =some (.cells arr e fz)->w'.heap[b]? =some (.cells arr e fz)
def bY (w:World) (l:List ag) (v:Value):Prop:=(l=[]/\ ∃a c,v= .slice a 0 c)\/ ∃b off cap arr e fz,v= .slice (some ⟨b,off,none⟩) l.length cap/\w.heap[b]? =some (.cells arr e fz)/\l.length<=cap/\off+l.length*3<=arr.size/\
 ∀i (h:i<l.length),arr[off+i*3]? =some (.int .i64 l[i].dev)/\arr[off+i*3+1]? =some (.int .i64 l[i].inc)/\arr[off+i*3+2]? =some (.int .i64 l[i].seq)
theorem ij [Inhabited aF] {w:World} {p:Nat->Prop} {g:Bool} {k:IntKind} {n:Int} {v:Value} (h:Rd w p g (.int k n) v):v= .int k n:=by cases h;rfl
theorem mY [Inhabited aF] {w:World} {p:Nat->Prop} {g:Bool} {s:Bs} {v:Value} (h:Rd w p g (.str s) v):v= .string ⟨s.toArray⟩:=by cases h;rfl
theorem oQ [Inhabited aF] {w:World} {p:Nat->Prop} {g:Bool} {b:Bool} {v:Value} (h:Rd w p g (.bool b) v):v= .bool b:=by cases h;rfl
theorem sq [Inhabited aF] {w:World} {p:Nat->Prop} {g:Bool} {l:List ag} {v:Value} (h:Rd w p g (cz l) v):bY w l v:=by
 unfold cz at h
 cases h with
 |gE h0=>exact .inl ⟨AQ.1 h0,_,_,rfl⟩
 |bL h h0 a c=>exact .inl ⟨AQ.1 h0,_,_,rfl⟩
 |aJ b off cap arr e fz sz u hp hb hs hl hn hc h1 h2=>
  by_cases h0:l=[]
  . subst h0;exact .inl ⟨rfl,_,_,rfl⟩
  . have hsz:sz=3:=by
     obtain⟨x,l',rfl⟩:=D8 h0;exact(hn 0 x rfl).symm
    subst hsz;refine .inr ⟨b,off,cap,arr,e,fz,rfl,hb,hc,hl,fun i hi=>?_⟩;have hx:l[i]? =some l[i]:=Ag hi;have e0:=h1 i _ 0 _ hx rfl;have e1:=h1 i _ 1 _ hx rfl;have e2:=h1 i _ 2 _ hx rfl;rw[ij (h2 i _ 0 _ hx rfl)]at e0;rw[ij (h2 i _ 1 _ hx rfl)]at e1;rw[ij (h2 i _ 2 _ hx rfl)]at e2;exact⟨e0,e1,e2⟩
theorem sB [Inhabited aF] {w:World} {l:List ag} {v:Value} (h:bY w l v):Rd w (fun _=>True) true (cz l) v:=by
 unfold cz;rcases h with⟨rfl,a,c,rfl⟩|⟨b,off,cap,arr,e,fz,rfl,hb,hc,hl,hi⟩
 . exact .bL rfl rfl a c
 . refine .aJ b off cap arr e fz 3 (fun i j=>(arr[off+i*3+j]?).getD (.bool false)) trivial hb (by decide) hl (fun _ _ _=>rfl) hc (fun i x j v hx hv=>?_) (fun i x j v hx hv=>?_)
   all_goals
    have hil:i<l.length:=(Ad.1 hx).1;have hxe:l[i]=x:=(Ad.1 hx).2;obtain⟨e0,e1,e2⟩:=hi i hil;rw[hxe]at e0 e1 e2;have hj:j<3:=(Ad.1 hv).1;match j,hj with
    |0,_=>cases hv;first|exact e0.trans (by rw[Bk,e0];rfl)|(simp only[Bk,e0,AK];exact .int _ _)
    |1,_=>cases hv;first|exact e1.trans (by rw[e1];rfl)|(simp only[e1,AK];exact .int _ _)
    |2,_=>cases hv;first|exact e2.trans (by rw[e2];rfl)|(simp only[e2,AK];exact .int _ _)
theorem bY.cells {w w':World} (hc:iG w w') {l:List ag} {v:Value} (h:bY w l v):bY w' l v:=by
 rcases h with h|⟨b,off,cap,arr,e,fz,h1,h2,h3⟩
 . exact .inl h
 . exact .inr ⟨b,off,cap,arr,e,fz,h1,hc _ _ _ _ h2,h3⟩
abbrev cF (s:Bs):Value:= .string ⟨s.toArray⟩
def fZ (e:aa) (v:Value):Value:= .agg #[.int .i64 e.dot.dev, .int .i64 e.dot.inc, .int .i64 e.dot.seq, .int .i64 e.aV.wall, .int .i64 e.aV.count, .int .i64 e.aV.dev, .int .i64 e.kind,cF e.key.name,cF e.key.domain,cF e.key.path,
 cF e.ae.value, .bool e.ae.bI, .bool e.ae.cK, .bool e.ae.bJ, .bool e.ae.persistent, .int .i64 e.ae.cA, .int .i64 e.ae.bE, .int .i64 e.ae.access,v]
def gY (w:World) (u:Value) (e:aa):Prop:=∃v,u=fZ e v/\bY w e.over v
theorem gY.cells {w w':World} (hc:iG w w') {u:Value} {e:aa} (h:gY w u e):gY w' u e:=by
 obtain⟨v,h1,h2⟩:=h;exact⟨v,h1,h2.cells hc⟩
def o7 (x:Value×aa):Value:=x.1
def np (x:Nat×DL):Value:= .map (some x.1)
structure cy (w:World) (n b bk ba bd bs bv:Nat) (G:aT):Prop where
 c0:w.cell? ⟨b,0,none⟩=some (.map (some bk))
 c1:w.cell? ⟨b,1,none⟩=some (.map (some ba))
 c2:w.cell? ⟨b,2,none⟩=some (.map (some bd))
 c3:w.cell? ⟨b,3,none⟩=some (.pointer (some ⟨bs,0,none⟩))
 cv:w.cell? ⟨bs,0,none⟩=some (.map (some bv))
 gF:au w bk bq o7 G.kept
 ma:au w ba cP np G.alive
 md:au w bd bq ch G.dead
 mv:au w bv ep ch G.vec
 mi:∀x∈G.alive,au w x.2.1 bq ch x.2.2
 nd:(bk::ba::bd::bv::G.alive.map (·.2.1)).Nodup
 low:∀j∈b::bs::bk::ba::bd::bv::G.alive.map (·.2.1),n<=j
 ev:∀x∈G.kept,gY w x.2.1 x.2.2
def dG (bk ba bd bv:Nat) (G:aT) (j:Nat):Prop:=j∈bk::ba::bd::bv::G.alive.map (·.2.1)
def kj (w:World) (j:Nat):Prop:=∃es clk,w.heap[j]? =some (.map es clk)
section
variable {K V:Type} [DecidableEq K]
theorem _root_.Go.Gm.au.isMap {w:World} {b:Nat} {enc:K->Value} {encV:V->Value} {L:List (K×V)} (h:au w b enc encV L):kj w b:=by
 obtain⟨es,clk,h,_⟩:=h.at_;exact⟨es,clk,h⟩
theorem _root_.Go.Gm.au.lt {w:World} {b:Nat} {enc:K->Value} {encV:V->Value} {L:List (K×V)} (h:au w b enc encV L):b<w.heap.size:=by
 obtain⟨es,clk,h,_⟩:=h.at_;exact(Ac.1 h).1
theorem _root_.Go.Gm.au.repr {w:World} {b:Nat} {enc:K->Value} {encV:V->Value} {L L':List (K×V)} (h:au w b enc encV L) (hk:L'.map (·.1)=L.map (·.1)) (hv:L'.map (fun x=>(enc x.1,encV x.2))=L.map fun x=>(enc x.1,encV x.2)):au w b enc encV L':=by
 obtain⟨⟨es,clk,h1,h2,h3⟩,h4⟩:=h;exact⟨⟨es,clk,h1,h2.trans hv.symm,h3⟩,by rw[hk];exact h4⟩
end
theorem gU {w:World} {b o:Nat} {v:Value} (h:w.cell? ⟨b,o,none⟩=some v):b<w.heap.size:=by
 unfold World.cell? at h
 cases e:w.heap[b]? with
 |none=>simp[e]at h
 |some o=>exact(Ac.1 e).1
theorem tO {w:World} {b o:Nat} {v:Value} (h:w.cell? ⟨b,o,none⟩=some v):¬kj w b:=by
 rintro⟨es,clk,e⟩;unfold World.cell? at h;simp[e]at h
theorem dT {w w':World} {b o:Nat} {v:Value} (h:w.cell? ⟨b,o,none⟩=some v) (e:w'.heap[b]? =w.heap[b]?):w'.cell? ⟨b,o,none⟩=some v:=by
 unfold World.cell? at h⊢;rw[e];exact h
theorem eE.cells {S:Nat->Prop} {w w':World} (h:eE S w w') (hS:∀k,S k->kj w k):iG w w':=by
 intro b arr e fz hb;rw[h.block b (Ac.1 hb).1 ?_]
 . exact hb
 . intro hs;obtain⟨es,clk,hm⟩:=hS b hs;rw[hb]at hm;cases hm
theorem dU {w w':World} (h:Below w.heap.size w w'):iG w w':=fun b arr e fz hb=>by
 rw[h.block b (Ac.1 hb).1];exact hb
section
variable {w w':World} {n b bk ba bd bs bv:Nat} {G:aT}
theorem cy.maps (h:cy w n b bk ba bd bs bv G):∀k,dG bk ba bd bv G k->kj w k:=by
 intro k hk;unfold dG at hk;simp only[Aj,Ar]at hk;rcases hk with rfl|rfl|rfl|rfl|⟨x,hx,rfl⟩
 . exact Go.Gm.au.isMap h.gF
 . exact Go.Gm.au.isMap h.ma
 . exact Go.Gm.au.isMap h.md
 . exact Go.Gm.au.isMap h.mv
 . exact Go.Gm.au.isMap (h.mi x hx)
theorem cy.aU (h:cy w n b bk ba bd bs bv G) (hc:iG w w') (hm:∀k,dG bk ba bd bv G k->w'.heap[k]? =w.heap[k]?):cy w' n b bk ba bd bs bv G:=by
 have cc:∀{b o:Nat} {v:Value},w.cell? ⟨b,o,none⟩=some v->w'.cell? ⟨b,o,none⟩=some v:=by
  intro b o v hv;refine dT hv ?_;unfold World.cell? at hv
  cases e:w.heap[b]? with
  |none=>simp[e]at hv
  |some q=>
   cases q with
   |cells arr t fz=>exact hc _ _ _ _ e
   |_=>simp[e]at hv
 refine⟨cc h.c0,cc h.c1,cc h.c2,cc h.c3,cc h.cv,h.gF.same (hm _ ?_),h.ma.same (hm _ ?_),h.md.same (hm _ ?_),h.mv.same (hm _ ?_),fun x hx=>(h.mi x hx).same (hm _ ?_),h.nd,h.low,fun x hx=>(h.ev x hx).cells hc⟩
 all_goals (unfold dG;simp)
 exact .inr (.inr (.inr (.inr ⟨x.1,x.2.2,hx⟩)))
theorem cy.below (h:cy w n b bk ba bd bs bv G) (hb:Below w.heap.size w w'):cy w' n b bk ba bd bs bv G:=
 h.aU (dU hb) fun k hk=>by
  obtain⟨es,clk,hm⟩:=h.maps k hk;exact hb.block k (Ac.1 hm).1
theorem C8 {j:Nat} {o:Obj} (hj:kj w j):iG w (World.aM w j o):=by
 intro b arr e fz hb;obtain⟨es,clk,hm⟩:=hj;rw[lq hm,if_neg (fun e=>by subst e;rw[hb]at hm;cases hm)];exact hb
theorem cy.lF (h:cy w n b bk ba bd bs bv G) {j:Nat} (hj:dG bk ba bd bv G j) {o:Obj} {G':aT}
  (hk:au (World.aM w j o) bk bq o7 G'.kept) (ha:au (World.aM w j o) ba cP np G'.alive) (hd:au (World.aM w j o) bd bq ch G'.dead) (hv:au (World.aM w j o) bv ep ch G'.vec)
  (hi:∀x∈G'.alive,au (World.aM w j o) x.2.1 bq ch x.2.2) (hnd:(bk::ba::bd::bv::G'.alive.map (·.2.1)).Nodup) (hlow:∀x∈G'.alive,n<=x.2.1) (hev:∀x∈G'.kept,gY w x.2.1 x.2.2):cy (World.aM w j o) n b bk ba bd bs bv G':=by
 have hc:=C8 (o:=o) (h.maps j hj);have cc:∀{b o':Nat} {v:Value},w.cell? ⟨b,o',none⟩=some v->(World.aM w j o).cell? ⟨b,o',none⟩=some v:=by
  intro b o' v hcell;refine dT hcell ?_;obtain⟨es,clk,hm⟩:=h.maps j hj;rw[lq hm,if_neg (fun e:b=j=>tO hcell (by rw[e];exact⟨es,clk,hm⟩))]
 refine⟨cc h.c0,cc h.c1,cc h.c2,cc h.c3,cc h.cv,hk,ha,hd,hv,hi,hnd,fun k hk'=>?_,fun x hx=>(hev x hx).cells hc⟩;simp only[Aj,Ar]at hk';rcases hk' with rfl|rfl|rfl|rfl|rfl|rfl|⟨x,hx,rfl⟩
 all_goals first|exact hlow x hx|(refine h.low _ ?_;simp)
theorem cy.ne (h:cy w n b bk ba bd bs bv G):bk≠ba/\bk≠bd/\bk≠bv/\ba≠bd/\ba≠bv/\bd≠bv:=by
 have:=h.nd;simp only[Dq,Aj,not_or]at this;exact⟨this.1.1,this.1.2.1,this.1.2.2.1,this.2.1.1,this.2.1.2.1,this.2.2.1.1⟩
theorem cy.p8 (h:cy w n b bk ba bd bs bv G) {x:aC×(Nat×DL)} (hx:x∈G.alive):x.2.1≠bk/\x.2.1≠ba/\x.2.1≠bd/\x.2.1≠bv:=by
 have:=h.nd;simp only[Dq,Aj,not_or,Ar,not_exists,not_and]at this;exact⟨this.1.2.2.2 x hx,this.2.1.2.2 x hx,this.2.2.1.2 x hx,this.2.2.2.1 x hx⟩
theorem fG {j i:Nat} {o:Obj} (h:kj w j) (hne:i≠j):(World.aM w j o).heap[i]? =w.heap[i]? :=by
 obtain⟨es,clk,hm⟩:=h;rw[lq hm,if_neg hne]
end
end
theorem Tw (w:World):Calls Tryz.prog 64 #[] w fun e w'=>e= .returned (.pointer (some ⟨w.heap.size+1,0,none⟩))/\w'=(w.alloc (.map #[] 0)).alloc (.cells #[.map (some w.heap.size)] 149):=by
 have hmm:= @run_makeMap Tryz.prog;go_enter Tryz.func64,Tryz.ntmps64
 go_wp2;go_ret;exact⟨by simp,rfl⟩
theorem lu (w:World) (o:Obj) (i:Nat):(w.alloc o).heap[i]? =if i=w.heap.size then some o else w.heap[i]? :=by
 show(w.heap.push o)[i]? =_
 rw[Fu]
theorem sm (w:World) (arr:Array Value) (e:TypeId) (fz:Nat×Nat) (i o:Nat):(w.alloc (.cells arr e fz)).cell? ⟨i,o,none⟩=if i=w.heap.size then arr[o]? else w.cell? ⟨i,o,none⟩:=by
 unfold World.cell?
 simp only[lu];by_cases h:i=w.heap.size
 . simp[h]
 . simp[h]
theorem qc {K V:Type} [DecidableEq K] {w:World} {b:Nat} {enc:K->Value} {encV:V->Value} (h:w.heap[b]? =some (.map #[] 0)):au w b enc encV ([]:List (K×V)):=
 ⟨⟨#[],0,h,by simp[gk],by simp,by simp⟩,by simp⟩
theorem Ju (w:World):Calls Tryz.prog 14 #[] w fun e w'=>∃b bk ba bd bs bv,e= .returned (.pointer (some ⟨b,0,none⟩))/\cy w' w.heap.size b bk ba bd bs bv ⟨[],[],[],[]⟩/\Below w.heap.size w w':=by
 have hmm:= @run_makeMap Tryz.prog;go_enter Tryz.func14,Tryz.ntmps14
 go_wp2_with (go_at_call 64;refine(Tw _).mono ?_;rintro e w1 ⟨rfl,rfl⟩)
 go_ret;refine⟨w.heap.size+5,w.heap.size,w.heap.size+1,w.heap.size+2,w.heap.size+4,w.heap.size+3,rfl,?_,?_⟩
 . refine⟨by simp[sm],by simp[sm],by simp[sm],by simp[sm],by simp[sm],qc (by simp only[lu,World.size_alloc];repeat (first|rfl|rw[if_neg (by omega)]);try simp;try omega),qc (by simp only[lu,World.size_alloc];repeat (first|rfl|rw[if_neg (by omega)]);try simp;try omega),qc (by simp only[lu,World.size_alloc];repeat (first|rfl|rw[if_neg (by omega)]);try simp;try omega),qc (by simp only[lu,World.size_alloc];repeat (first|rfl|rw[if_neg (by omega)]);try simp;try omega),fun x hx=>(by cases hx),by simp,by simp,fun x hx=>(by cases hx)⟩
 . refine Below.alloc (Below.alloc (Below.alloc (Below.alloc (Below.alloc (Below.alloc (Below.refl _ _) ?_ _) ?_ _) ?_ _) ?_ _) ?_ _) ?_ _
   all_goals (simp;try omega)
theorem Tryz.room {w:World} {n b bk ba bd bs bv:Nat} {G:aT} (h:cy w n b bk ba bd bs bv G) (hl:G.kept.length<=100000):Calls Tryz.prog 68 #[.pointer (some ⟨b,0,none⟩), .int .i64 1] w fun e w'=>e= .returned (.bool (decide (1<=2048 - (G.kept.length:Int))))/\w'=w:=by
 obtain⟨es,clk,hb,hsz⟩:=h.gF.len;have c0:=h.c0;have hlen:(Builtin.len_ #[99] 3 #[.map (some bk)]).run Tryz.prog w= .ok (.int .i64 G.kept.length) w:=by
  rw[run_len_map w 99 3 bk es clk (by simp[Program.mapKeyOf,Program.mapElemOf,Tryz.underlying99]) hb,hsz];rfl
 have hwr:wrap64 (2048 - (G.kept.length:Int))=2048 - (G.kept.length:Int):=by
  exact IntWalk.wrap64_in _ (by omega)
 clear h hb;go_enter Tryz.func68,Tryz.ntmps68
 go_wp2;go_ret;exact⟨rfl,rfl⟩
theorem SE {w:World} {bd:Nat} {L:DL} (hm:au w bd bq ch L) (d:ag):(Instr.lookup 101 (.map (some bd)) (bq d) true).run Tryz.prog w= .ok (.tuple #[.int .i64 ((aw L d).getD 0), .bool (aw L d).isSome]) w:=by
 rw[hm.lookup gN Tryz.underlying101 (sY w) d true]
 cases aw L d<;>rfl
theorem Tryz.dead {w:World} {n b bk ba bd bs bv:Nat} {G:aT} (h:cy w n b bk ba bd bs bv G) (d:ag):Calls Tryz.prog 71 #[.pointer (some ⟨b,0,none⟩),bq d] w fun e w'=>e= .returned (.bool (aw G.dead d).isSome)/\Below w.heap.size w w':=by
 have hb:Below w.heap.size w (w.alloc (.cells #[.int .i64 d.dev, .int .i64 d.inc, .int .i64 d.seq] 35)).drew:=((Below.refl w.heap.size w).alloc (Ah _) _).drew;have h1:=h.below hb;have hlk:=SE h1.md d;have c2:=h1.c2;unfold bq at hlk⊢;clear h h1;go_enter Tryz.func71,Tryz.ntmps71
 go_wp2_with fail
 go_region
 go_wp2;go_ret;exact⟨rfl,hb⟩
section
section
variable {K V:Type} [DecidableEq K]
theorem uX {A:List (K×V)} {k:K} {v:V} {x:K×V} (h:x∈bN A k v):x=(k,v)\/(x∈A/\x.1≠k):=by
 unfold bN at h;split at h
 . obtain⟨y,hy,he⟩:=Ar.1 h;split at he
   . exact .inl he.symm
   . rename_i hne;subst he;exact .inr ⟨hy,fun e=>hne e.symm⟩
 . rename_i hk;rcases Ba.1 h with h|h
   . exact .inr ⟨h,fun e=>hk (Ar.2 ⟨x,h,e⟩)⟩
   . exact .inl (BM.1 h)
theorem sk {β:Type} {A:List (K×V)} {k:K} {u v:V} {f:K×V->β} (hn:(A.map (·.1)).Nodup) (h:aw A k=some u) (hf:f (k,v)=f (k,u)):(bN A k v).map f=A.map f:=by
 have hm:=lp h;unfold bN;rw[if_pos (Ar.2 ⟨_,hm,rfl⟩),Bw];refine Dc fun x hx=>?_
 simp only[Function.comp];split
 . rename_i e;obtain⟨a,b⟩:=x;simp only at e;subst e;rw[yD hn hx hm];exact hf
 . rfl
theorem Ci {β:Type} {A:List (K×V)} {k:K} {v:V} {f:K×V->β} (h:aw A k=none):(bN A k v).map f=A.map f++[f (k,v)]:=by
 unfold bN;rw[if_neg (bg.1 h),AR];rfl
theorem PF (A:List (K×V)) (k:K) (u v:V):bN (bN A k u) k v=bN A k v:=by
 by_cases h:k∈A.map (·.1)
 . have h1:bN A k u=A.map (fun x=>if k=x.1 then(k,u)else x):=if_pos h;have h2:bN A k v=A.map (fun x=>if k=x.1 then(k,v)else x):=if_pos h;have h3:k∈(bN A k u).map (·.1):=by rw[GO,gQ];simp
   have h4:bN (bN A k u) k v=(bN A k u).map (fun x=>if k=x.1 then(k,v)else x):=if_pos h3;rw[h4,h1,h2,Bw];refine Dc fun x _=>?_
   simp only[Function.comp];by_cases e:k=x.1<;>simp[e]
 . have h1:bN A k u=A++[(k,u)]:=if_neg h;have h2:bN A k v=A++[(k,v)]:=if_neg h;have h3:k∈(bN A k u).map (·.1):=by rw[GO,gQ];simp
   have h4:bN (bN A k u) k v=(bN A k u).map (fun x=>if k=x.1 then(k,v)else x):=if_pos h3;rw[h4,h1,h2,AR];congr 1
   . conv=>rhs;rw[<-Fo A]
     refine Dc fun x hx=>?_
     rw[if_neg (fun e=>h (Ar.2 ⟨x,hx,e.symm⟩))];rfl
   . simp
end
theorem eE.more {S T:Nat->Prop} {a b c:World} (h:eE S a b) (k:eE T b c) (hT:∀i,i<a.heap.size->T i->S i):eE S a c:=
 ⟨k.os.trans h.os,k.tape.trans h.tape,k.output.trans h.output,Aq h.size k.size,fun i hi hS=>(k.block i (AU hi h.size) fun ht=>hS (hT i hi ht)).trans (h.block i hi hS)⟩
section
variable {w w':World} {n b bk ba bd bs bv:Nat} {G:aT}
theorem cy.gM (h:cy w n b bk ba bd bs bv G) {k:aC} {j:Nat} {L L':DL} (hj:aw G.alive k=some (j,L)) {o:Obj} (hm:au (World.aM w j o) j bq ch L'):cy (World.aM w j o) n b bk ba bd bs bv {G with alive:=bN G.alive k (j,L')}:=by
 have hjm:=lp hj;have hmap:=au.isMap (h.mi _ hjm);obtain⟨n1,n2,n3,n4⟩:=h.p8 hjm;have hblk:(bN G.alive k (j,L')).map (·.2.1)=G.alive.map (·.2.1):=sk h.ma.nd hj rfl;refine h.lF (j:=j) (by unfold dG;simp only[Aj,Ar];exact .inr (.inr (.inr (.inr ⟨_,hjm,rfl⟩)))) (h.gF.same (fG hmap n1.symm)) ((h.ma.same (fG hmap n2.symm)).repr (sk h.ma.nd hj rfl) (sk h.ma.nd hj rfl)) (h.md.same (fG hmap n3.symm)) (h.mv.same (fG hmap n4.symm)) (fun x hx=>?_) ?_ (fun x hx=>?_) h.ev
 . rcases uX hx with rfl|⟨hx,hk⟩
   . exact hm
   . refine(h.mi x hx).same (fG hmap fun e=>?_);have hnd:=h.nd;simp only[Dq]at hnd;have hnd:=hnd.2.2.2.2;have:∀{A:List (aC×(Nat×DL))},(A.map (·.2.1)).Nodup->x∈A->(k,(j,L))∈A->x=(k,(j,L)):=by
      intro A;induction A with
      |nil=>intro _ h;cases h
      |cons y A ih=>
       intro hn h1 h2;rw[AP,Dq]at hn;rcases Aj.1 h1 with h1|h1<;>rcases Aj.1 h2 with h2|h2
       . rw[h1,h2]
       . exact absurd (Ar.2 ⟨_,h2,by rw[<-h1];exact e.symm⟩) hn.1
       . exact absurd (Ar.2 ⟨_,h1,by rw[<-h2];exact e⟩) hn.1
       . exact ih hn.2 h1 h2
     have:=this hnd hx hjm;rw[this]at hk;exact hk rfl
 . show(bk::ba::bd::bv::(bN G.alive k (j,L')).map (·.2.1)).Nodup
   rw[hblk];exact h.nd
 . have:x.2.1∈(bN G.alive k (j,L')).map (·.2.1):=Ar.2 ⟨x,hx,rfl⟩;rw[hblk]at this;refine h.low _ ?_;simp only[Aj];exact .inr (.inr (.inr (.inr (.inr (.inr this)))))
theorem cy.jq (h:cy w n b bk ba bd bs bv G) {k:aC} {j:Nat} (hn:aw G.alive k=none) {o:Obj} (hj:au w j bq ch ([]:DL)) (hjn:¬dG bk ba bd bv G j) (hlow:n<=j) (hm:au (World.aM w ba o) ba cP np (bN G.alive k (j,[]))):
   cy (World.aM w ba o) n b bk ba bd bs bv {G with alive:=bN G.alive k (j,[])}:=by
 have hmap:=au.isMap h.ma;obtain⟨n1,n2,n3,n4,n5,n6⟩:=h.ne;have hblk:(bN G.alive k (j,[])).map (·.2.1)=G.alive.map (·.2.1)++[j]:=Ci hn;unfold dG at hjn;simp only[Aj,not_or]at hjn;refine h.lF (j:=ba) (by unfold dG;simp) (h.gF.same (fG hmap n1)) hm (h.md.same (fG hmap n4.symm)) (h.mv.same (fG hmap n5.symm)) (fun x hx=>?_) ?_ (fun x hx=>?_) h.ev
 . rcases uX hx with rfl|⟨hx,hk⟩
   . exact hj.same (fG hmap hjn.2.1)
   . exact(h.mi x hx).same (fG hmap (h.p8 hx).2.1)
 . show(bk::ba::bd::bv::(bN G.alive k (j,[])).map (·.2.1)).Nodup
   rw[hblk];have h1:(bk::ba::bd::bv::(G.alive.map (·.2.1)++[j]))=(bk::ba::bd::bv::G.alive.map (·.2.1))++[j]:=by simp
   rw[h1,EE];refine⟨h.nd,by simp,fun a ha c hc=>?_⟩;rw[BM]at hc;subst hc;rintro rfl;simp only[Aj]at ha;rcases ha with ha|ha|ha|ha|ha
   . exact hjn.1 ha
   . exact hjn.2.1 ha
   . exact hjn.2.2.1 ha
   . exact hjn.2.2.2.1 ha
   . exact hjn.2.2.2.2 ha
 . rcases uX hx with rfl|⟨hx,hk⟩
   . exact hlow
   . refine h.low _ ?_;simp only[Aj];exact .inr (.inr (.inr (.inr (.inr (.inr (Ar.2 ⟨x,hx,rfl⟩))))))
theorem cy.ny (h:cy w n b bk ba bd bs bv G) {D:DL} {o:Obj} (hm:au (World.aM w bd o) bd bq ch D):cy (World.aM w bd o) n b bk ba bd bs bv {G with dead:=D}:=by
 have hmap:=au.isMap h.md;obtain⟨n1,n2,n3,n4,n5,n6⟩:=h.ne;exact h.lF (j:=bd) (by unfold dG;simp) (h.gF.same (fG hmap n2)) (h.ma.same (fG hmap n4)) hm (h.mv.same (fG hmap n6.symm)) (fun x hx=>(h.mi x hx).same (fG hmap (h.p8 hx).2.2.1)) h.nd (fun x hx=>h.low _ (by simp only[Aj];exact .inr (.inr (.inr (.inr (.inr (.inr (Ar.2 ⟨x,hx,rfl⟩)))))))) h.ev
theorem cy.nz (h:cy w n b bk ba bd bs bv G) {d:ag} {x:Value×aa} {o:Obj} (hx:gY w x.1 x.2) (hm:au (World.aM w bk o) bk bq o7 (bN G.kept d x)):cy (World.aM w bk o) n b bk ba bd bs bv {G with kept:=bN G.kept d x}:=by
 have hmap:=au.isMap h.gF;obtain⟨n1,n2,n3,n4,n5,n6⟩:=h.ne;refine h.lF (j:=bk) (by unfold dG;simp) hm (h.ma.same (fG hmap n1.symm)) (h.md.same (fG hmap n2.symm)) (h.mv.same (fG hmap n3.symm)) (fun x hx=>(h.mi x hx).same (fG hmap (h.p8 hx).1)) h.nd (fun x hx=>h.low _ (by simp only[Aj];exact .inr (.inr (.inr (.inr (.inr (.inr (Ar.2 ⟨x,hx,rfl⟩)))))))) (fun y hy=>?_);rcases uX hy with rfl|⟨hy,_⟩
 . exact hx
 . exact h.ev y hy
theorem cy.je (h:cy w n b bk ba bd bs bv G) {k:aC} {o:Obj} (hm:au (World.aM w ba o) ba cP np (cW G.alive k)):cy (World.aM w ba o) n b bk ba bd bs bv {G with alive:=cW G.alive k}:=by
 have hmap:=au.isMap h.ma;obtain⟨n1,n2,n3,n4,n5,n6⟩:=h.ne;have hsub:∀x∈cW G.alive k,x∈G.alive:=fun x hx=>(AB.1 hx).1
 refine h.lF (j:=ba) (by unfold dG;simp) (h.gF.same (fG hmap n1)) hm (h.md.same (fG hmap n4.symm)) (h.mv.same (fG hmap n5.symm)) (fun x hx=>(h.mi x (hsub x hx)).same (fG hmap (h.p8 (hsub x hx)).2.1)) ?_ (fun x hx=>h.low _ (by simp only[Aj];exact .inr (.inr (.inr (.inr (.inr (.inr (Ar.2 ⟨x,hsub x hx,rfl⟩)))))))) h.ev;refine List.Sublist.nodup ?_ h.nd;exact((((List.filter_sublist.map _).cons₂ _).cons₂ _).cons₂ _).cons₂ _
end
theorem iP {w:World} {ba:Nat} {A:List (aC×(Nat×DL))} (hm:au w ba cP np A) (k:aC):(Instr.lookup 100 (.map (some ba)) (cP k) false).run Tryz.prog w= .ok (.map ((aw A k).map (·.1))) w:=by
 rw[hm.lookup wq Tryz.underlying100 (z:= .map none) (by kernel_rfl) k false]
 cases aw A k<;>rfl
theorem oI {w:World} {j b o:Nat} {x:Obj} {v:Value} (hj:kj w j) (h:w.cell? ⟨b,o,none⟩=some v):(World.aM w j x).cell? ⟨b,o,none⟩=some v:=
 dT h (fG hj fun e=>tO h (by rw[e];exact hj))
theorem xF (e:aa) (v:Value):fZ e v= .agg #[.int .i64 e.dot.dev, .int .i64 e.dot.inc, .int .i64 e.dot.seq, .int .i64 e.aV.wall, .int .i64 e.aV.count, .int .i64 e.aV.dev, .int .i64 e.kind,cF e.key.name,cF e.key.domain,cF e.key.path,
 cF e.ae.value, .bool e.ae.bI, .bool e.ae.cK, .bool e.ae.bJ, .bool e.ae.persistent, .int .i64 e.ae.cA, .int .i64 e.ae.bE, .int .i64 e.ae.access,v]:=rfl
theorem RK (b:Nat) (w:World):(binOp BinOp.eql 101 (.map (some b)) (.map none)).run Tryz.prog w= .ok (.bool false) w:=by kernel_rfl
theorem SR {w:World} {n b bk ba bd bs bv:Nat} {G:aT} (h:cy w n b bk ba bd bs bv G) (e:aa) (v:Value) {j:Nat} {L:DL} (hj:aw G.alive e.key=some (j,L)):
   Calls Tryz.prog 72 #[.pointer (some ⟨b,0,none⟩),fZ e v] w fun e' w'=>e'= .returned (.tuple #[])/\eE (dG bk ba bd bv G) w w'/\cy w' n b bk ba bd bs bv {G with alive:=bN G.alive e.key (j,bN L e.dot 1)}:=by
 rw[xF];obtain⟨W,hW⟩:∃W,(w.alloc (.cells #[.int .i64 e.dot.dev, .int .i64 e.dot.inc, .int .i64 e.dot.seq, .int .i64 e.aV.wall, .int .i64 e.aV.count, .int .i64 e.aV.dev, .int .i64 e.kind,cF e.key.name,cF e.key.domain,cF e.key.path,
   cF e.ae.value, .bool e.ae.bI, .bool e.ae.cK, .bool e.ae.bJ, .bool e.ae.persistent, .int .i64 e.ae.cA, .int .i64 e.ae.bE, .int .i64 e.ae.access,v] 42))=W:=⟨_,rfl⟩
 have hb:Below w.heap.size w W:=by rw[<-hW];exact(Below.refl w.heap.size w).alloc (Ah _) _
 have h0:=h.below hb;go_enter Tryz.func72,Tryz.ntmps72
 go_wp2_with fail
 have k7:W.cell? ⟨w.heap.size,7,none⟩=some (cF e.key.name):=by rw[<-hW];simp
 have k8:W.cell? ⟨w.heap.size,8,none⟩=some (cF e.key.domain):=by rw[<-hW];simp
 have k9:W.cell? ⟨w.heap.size,9,none⟩=some (cF e.key.path):=by rw[<-hW];simp
 have d0:W.cell? ⟨w.heap.size,0,none⟩=some (.int .i64 e.dot.dev):=by rw[<-hW];simp
 have d1:W.cell? ⟨w.heap.size,1,none⟩=some (.int .i64 e.dot.inc):=by rw[<-hW];simp
 have d2:W.cell? ⟨w.heap.size,2,none⟩=some (.int .i64 e.dot.seq):=by rw[<-hW];simp
 have h1:=h0.below (Below.refl W.heap.size W).drew;have c1:=h0.c1;have hlk:=iP h1.ma e.key;rw[hj]at hlk;have hjm:(e.key,(j,L))∈G.alive:=lp hj;have h2:=h1.below (Below.refl W.drew.heap.size W.drew).drew;obtain⟨es,clk,hu,hmu⟩:=(h2.mi _ hjm).update gN Tryz.underlying101 e.dot 1;have hlk2:=iP h2.ma e.key;rw[hj]at hlk2;have hnil:=fun w=>RK j w
 rw[show cP e.key= .agg #[cF e.key.name,cF e.key.domain,cF e.key.path]from rfl]at hlk hlk2;unfold bq ch at hu;clear h0 h hW;go_region
 go_wp2_with fail
 go_region
 go_wp2;go_end0
 refine⟨rfl,?_,h2.gM hj hmu⟩;refine(kA (hb.drew.drew)).more (T:=(· =j)) ⟨rfl,rfl,rfl,by simp[World.aM],fun k _ hk=>?_⟩ ?_
 . exact fG (au.isMap (h2.mi _ hjm)) hk
 . rintro i _ rfl;unfold dG;simp only[Aj,Ar];exact .inr (.inr (.inr (.inr ⟨_,hjm,rfl⟩)))
theorem SQ {w:World} {n b bk ba bd bs bv:Nat} {G:aT} (h:cy w n b bk ba bd bs bv G) (hn:n<=w.heap.size) (e:aa) (v:Value) (hj:aw G.alive e.key=none):
  Calls Tryz.prog 72 #[.pointer (some ⟨b,0,none⟩),fZ e v] w fun e' w'=>e'= .returned (.tuple #[])/\eE (dG bk ba bd bv G) w w'/\ ∃j,w.heap.size<=j/\cy w' n b bk ba bd bs bv {G with alive:=bN G.alive e.key (j,[(e.dot,1)])}:=by
 rw[xF];obtain⟨W,hW⟩:∃W,(w.alloc (.cells #[.int .i64 e.dot.dev, .int .i64 e.dot.inc, .int .i64 e.dot.seq, .int .i64 e.aV.wall, .int .i64 e.aV.count, .int .i64 e.aV.dev, .int .i64 e.kind,cF e.key.name,cF e.key.domain,cF e.key.path,
  cF e.ae.value, .bool e.ae.bI, .bool e.ae.cK, .bool e.ae.bJ, .bool e.ae.persistent, .int .i64 e.ae.cA, .int .i64 e.ae.bE, .int .i64 e.ae.access,v] 42))=W:=⟨_,rfl⟩
 have hb:Below w.heap.size w W:=by rw[<-hW];exact(Below.refl w.heap.size w).alloc (Ah _) _
 have h0:=h.below hb;have hmm:= @run_makeMap Tryz.prog;go_enter Tryz.func72,Tryz.ntmps72
 go_wp2_with fail
 have k7:W.cell? ⟨w.heap.size,7,none⟩=some (cF e.key.name):=by rw[<-hW];simp
 have k8:W.cell? ⟨w.heap.size,8,none⟩=some (cF e.key.domain):=by rw[<-hW];simp
 have k9:W.cell? ⟨w.heap.size,9,none⟩=some (cF e.key.path):=by rw[<-hW];simp
 have d0:W.cell? ⟨w.heap.size,0,none⟩=some (.int .i64 e.dot.dev):=by rw[<-hW];simp
 have d1:W.cell? ⟨w.heap.size,1,none⟩=some (.int .i64 e.dot.inc):=by rw[<-hW];simp
 have d2:W.cell? ⟨w.heap.size,2,none⟩=some (.int .i64 e.dot.seq):=by rw[<-hW];simp
 have hsz:W.heap.size=w.heap.size+1:=by rw[<-hW];simp
 have h1:=h0.below (Below.refl W.heap.size W).drew;have c1:=h0.c1;have hlk:=iP h1.ma e.key;rw[hj]at hlk;have hnew:Below W.heap.size W (W.alloc (.map #[] 0)).drew.drew:=((Below.refl W.heap.size W).alloc (Ah _) _).drew.drew;have h2:=h0.below hnew;have hjn:¬dG bk ba bd bv G W.heap.size:=fun hm=>by
  obtain⟨es,clk,hx⟩:=h0.maps _ hm;have:=(Ac.1 hx).1;omega
 have hfr:au (W.alloc (.map #[] 0)).drew.drew W.heap.size bq ch ([]:DL):=qc (by show(W.alloc (.map #[] 0)).heap[W.heap.size]? =_;rw[lu];simp);obtain⟨es,clk,hu,hmu⟩:=h2.ma.update wq Tryz.underlying100 e.key ((W.heap.size,[]):Nat×DL);have h3:=h2.jq hj hfr hjn (by omega) hmu;have up:∀{o:Nat} {x:Value},W.cell? ⟨w.heap.size,o,none⟩=some x->(W.alloc (.map #[] 0)).cell? ⟨w.heap.size,o,none⟩=some x:=fun hx=>(((Below.refl W.heap.size W).alloc (Ah _) _).cell (by rw[hsz];exact DP _)).trans hx
 have k7':=up k7;have k8':=up k8;have k9':=up k9;have d0':=up d0;have d1':=up d1;have d2':=up d2;have c1':(W.alloc (.map #[] 0)).cell? ⟨b,1,none⟩=some (.map (some ba)):=h2.c1;rw[hsz]at hu;clear up h0 h hW;rw[show cP e.key= .agg #[cF e.key.name,cF e.key.domain,cF e.key.path]from rfl]at hlk hu;rw[show np (w.heap.size+1,[])= .map (some (w.heap.size+1))from rfl]at hu;have hnil:∀w,(binOp BinOp.eql 101 (.map none) (.map none)).run Tryz.prog w= .ok (.bool true) w:=fun w=>by kernel_rfl
 go_region
 go_wp2_with fail
 have hmb:kj (W.alloc (.map #[] 0)).drew.drew ba:=au.isMap h2.ma;obtain⟨W3,hW3⟩:∃W3,World.aM (W.alloc (.map #[] 0)).drew.drew ba (.map es clk)=W3:=⟨_,rfl⟩;have up3:∀{o:Nat} {x:Value},(W.alloc (.map #[] 0)).cell? ⟨w.heap.size,o,none⟩=some x->W3.cell? ⟨w.heap.size,o,none⟩=some x:=fun hx=>by rw[<-hW3];exact oI hmb hx
 have k7'':=up3 k7';have k8'':=up3 k8';have k9'':=up3 k9';have d0'':=up3 d0';have d1'':=up3 d1';have d2'':=up3 d2';have hbut:eE (dG bk ba bd bv G) w W3:=by
  refine(kA (hb.trans (hnew.mono hb.size))).more (T:=(· =ba)) ⟨by rw[<-hW3];rfl,by rw[<-hW3];rfl,by rw[<-hW3];rfl,by rw[<-hW3];simp[World.aM],fun k _ hk=>by rw[<-hW3];exact fG hmb hk⟩ ?_;rintro i _ rfl;unfold dG;simp
 rw[hW3]at h3 hu;have c1'':=h3.c1;have h4:=h3.below (Below.refl W3.heap.size W3).drew;have hget:aw (bN G.alive e.key (W.heap.size,[])) e.key=some (W.heap.size,[]):=by rw[gQ];simp
 have hlk3:=iP h4.ma e.key;rw[hget,show cP e.key= .agg #[cF e.key.name,cF e.key.domain,cF e.key.path]from rfl]at hlk3;obtain⟨es2,clk2,hu2,hmu2⟩:=(h4.mi _ (lp hget)).update gN Tryz.underlying101 e.dot 1;rw[show bq e.dot= .agg #[.int .i64 e.dot.dev, .int .i64 e.dot.inc, .int .i64 e.dot.seq]from rfl,show ch 1= .int .i64 1 from rfl]at hu2;have hj2:kj W3 W.heap.size:=au.isMap (h3.mi _ (lp hget));have h5:=h4.gM hget hmu2;rw[PF]at h5;simp only[hsz,A2]at hlk3 hu2;clear h1 h2 h3 h4 hfr hmu hmu2 hget hmb;go_region
 go_wp2_with fail
 go_region
 go_wp2;go_end0
 rw[hsz]at h5 hj2;refine⟨rfl,hbut.more (T:=(· =w.heap.size+1)) ⟨rfl,rfl,rfl,by simp[World.aM],fun k _ hk=>fG (w:=W3.drew) hj2 hk⟩ (fun i hi e=>by subst e;omega),_,Fm _,h5⟩
end
end Go.Proofs
namespace Go.Gm
open Go Go.RowKit Go.Maps Go.Proofs Go.ChangeMaps
section
variable {P:Program} {K V:Type} [DecidableEq K]
structure cg (w:World) (r b:Nat) (enc:K->Value) (encV:V->Value) (L ss left:List (K×V)):Prop where
 ex:∃es clk seen,w.heap[b]? =some (.map es clk)/\gk enc encV es.toList L/\(es.toList.map (·.born)).Pairwise (· < ·)/\(∀e∈es.toList,e.born<clk)/\w.heap[r]? =some (.mapIter (some b) clk seen clk)/\gk enc encV (leftOf es seen).toList left
 perm:(ss++left).Perm L
theorem Kf:∀{l:List Nat},l.Pairwise (· < ·)->l.Nodup:=fun h=>h.imp fun h=>Nat.ne_of_lt h
theorem au.range {w:World} {b:Nat} {enc:K->Value} {encV:V->Value} {L:List (K×V)} (h:au w b enc encV L) {t T Te:TypeId} (ht:P.underlying t=some (.map T Te)):
  ∃w',(Instr.range t (.map (some b))).run P w= .ok (.pointer (some ⟨w.heap.size,0,none⟩)) w'/\cg w' w.heap.size b enc encV L [] L/\Below w.heap.size w w'/\w'.heap.size=w.heap.size+1:=by
 obtain⟨⟨es,clk,hb,hr,hs,hc⟩,_⟩:=h;have hlt:=(Ac.1 hb).1;refine⟨_,run_range_map w t T Te b es clk ht hb,⟨⟨es,clk,#[],(Below.heap_alloc w _ b hlt).trans hb,hr,hs,hc,by rw[lu,if_pos rfl],?_⟩,by simp⟩,(Below.refl _ w).alloc (Ah _) _,by simp⟩;have:leftOf es #[]=es:=by simp[leftOf]
 rw[this];exact hr
theorem HZ {enc:K->Value} {encV:V->Value}:∀{es:List MapEntry} {L:List (K×V)},gk enc encV es L->∀e∈es,∃M1 x M2 es1 es2,L=M1++x::M2/\es=es1++e::es2/\gk enc encV es1 M1/\gk enc encV es2 M2/\e.key=enc x.1/\e.val=encV x.2
 |[],_,_,e,h=>by cases h
 |a::es,[],h,_,_=>by simp[gk]at h
 |a::es,y::L,h,e,he=>by
  simp only[gk,AP,BG,BR]at h;rcases Aj.1 he with rfl|he
  . exact⟨[],y,L,[],es,rfl,rfl,rfl,h.2,h.1.1,h.1.2⟩
  . obtain⟨M1,x,M2,es1,es2,h1,h2,h3,h4,h5⟩:=HZ (h.2:gk enc encV es L) e he;refine⟨y::M1,x,M2,a::es1,es2,by rw[h1];rfl,by rw[h2];rfl,?_,h4,h5⟩;simp only[gk,AP,BG,BR];exact⟨h.1,h3⟩
theorem cg.next {w:World} {r b:Nat} {enc:K->Value} {encV:V->Value} {L ss left:List (K×V)} (h:cg w r b enc encV L ss left) (ty:TypeId):
   (left=[]/\ss.Perm L/\(Instr.next (.pointer (some ⟨r,0,none⟩)) false ty).run P w= .ok (.tuple #[.bool false]) w)\/
   ∃ x left' w',(Instr.next (.pointer (some ⟨r,0,none⟩)) false ty).run P w= .ok (.tuple #[.bool true,enc x.1,encV x.2]) w'/\cg w' r b enc encV L (ss++[x]) left'/\left.length=left'.length+1/\eE (· =r) w w'/\w'.heap.size=w.heap.size/\
     (Instr.entry (.pointer (some ⟨r,0,none⟩))).run P w'= .ok (.tuple #[enc x.1,encV x.2]) w':=by
 obtain⟨⟨es,clk,seen,hb,hr,hs,hc,hi,hl⟩,hp⟩:=h;have hnd:=Kf hs;rcases run_next_at (P:=P) w ty r b clk clk seen es clk hi hb hc (Ah _)with⟨h0,hrun⟩|⟨e,he,w1,hw1,hrun⟩
 . have:left=[]:=by
     have:=Ax List.length hl;simp only[A6,Array.length_toList,h0]at this;exact AQ.1 this.symm
   subst this;exact .inl ⟨rfl,by simpa using hp,hrun⟩
 . obtain⟨M1,x,M2,es1,es2,h1,h2,h3,h4,h5,h6⟩:=HZ hl e he;have hi1:w1.heap[r]? =some (.mapIter (some b) clk seen clk):=by rcases hw1 with rfl|rfl<;>exact hi
   have hb1:w1.heap[b]? =some (.map es clk):=by rcases hw1 with rfl|rfl<;>exact hb
   have hrlt:=(Ac.1 hi1).1;have hne:b≠r:=fun hh=>by rw[hh]at hb;rw[hb]at hi;cases hi
   have hget:∀k,(setBlock w1 r (.mapIter (some b) clk (seen.push e.born) clk)).heap[k]? =if k=r then some (.mapIter (some b) clk (seen.push e.born) clk)else w1.heap[k]? :=fun k=>by
     simp only[setBlock,Bx];by_cases hk:r=k
     . subst hk;simp[hrlt]
     . rw[if_neg hk,if_neg (Ne.symm hk)]
   have hem:e∈es.toList:=by
     have:=he;unfold leftOf at this;simp only[DZ,AB]at this;exact this.1
   refine .inr ⟨x,M1++M2,_,by rw[<-h5,<-h6];exact hrun,⟨⟨es,clk,seen.push e.born,by rw[hget,if_neg hne];exact hb1,hr,hs,hc,by rw[hget,if_pos rfl],?_⟩,?_⟩,by rw[h1];simp;omega,⟨?_,?_,?_,?_,fun k _ hk=>?_⟩,?_,by rw[<-h5,<-h6];exact run_entry_at _ r b clk seen es clk e (by rw[hget,if_pos rfl]) (by rw[hget,if_neg hne];exact hb1) hem hnd⟩
   . have hsub:((leftOf es seen).toList.map (·.born)).Nodup:=by
       unfold leftOf;rw[DZ];exact hnd.sublist (List.filter_sublist.map _)
     have hcut:(leftOf es (seen.push e.born)).toList=(leftOf es seen).toList.filter fun y=> !(y.born==e.born):=by
       unfold leftOf;rw[DZ,DZ,Dn];congr 1
       funext y
       rw[Array.contains_push];by_cases hh:y.born=e.born
       . simp[hh]
       . have h2:(y.born==e.born)=false:=by simpa using hh
         have h3:(e.born==y.born)=false:=by simpa using fun e=>hh e.symm
         simp only[h2,h3]
         cases seen.contains y.born<;>rfl
     rw[hcut,h2];rw[h2,AR,AP,EE]at hsub;obtain⟨n1,n2,n3⟩:=hsub;rw[Dq]at n2;have f1:es1.filter (fun y=> !(y.born==e.born))=es1:=by
       rw[BU];intro y hy;have:=n3 y.born (Ar.2 ⟨y,hy,rfl⟩) e.born Ao;simpa using this
     have f2:es2.filter (fun y=> !(y.born==e.born))=es2:=by
       rw[BU];intro y hy;have:y.born≠e.born:=fun hh=>n2.1 (Ar.2 ⟨y,hy,hh⟩)
       simpa using this
     rw[Dp,BQ,f1,f2];simp only[Eh,BH,Ak,Aw];unfold gk at h3 h4⊢;rw[AR,AR,h3,h4]
   . rw[h1]at hp;refine List.Perm.trans ?_ hp;rw[B6];refine List.Perm.append_left ss ?_;simp only[Dr];exact List.perm_middle.symm
   . rcases hw1 with rfl|rfl<;>rfl
   . rcases hw1 with rfl|rfl<;>rfl
   . rcases hw1 with rfl|rfl<;>rfl
   . rcases hw1 with rfl|rfl<;>simp[setBlock]
   . rw[hget,if_neg hk];rcases hw1 with rfl|rfl<;>rfl
   . rcases hw1 with rfl|rfl<;>simp[setBlock]
section
variable (w:World) {ops:Array Oper} {rest:List Oper} {o:Oper} {a:Act} {Q:Exit->Act->World->Prop}
theorem J8 (hg:o.guard=none) (m:Operand) (t:TypeId) (hop:o.op=Op.range t m) {T Te:TypeId} (ht:P.underlying t=some (.map T Te)) (b:Nat) {enc:K->Value} {encV:V->Value} {L:List (K×V)}
  (hm:a.eval m= .map (some b)) (h:au w b enc encV L)
  (hK:∀w',cg w' w.heap.size b enc encV L [] L->Below w.heap.size w w'->w'.heap.size=w.heap.size+1->wpList P ops Q rest (a.put o.dst (.pointer (some ⟨w.heap.size,0,none⟩))) w'):wpList P ops Q (o::rest) a w:=by
 refine wpList_plain hg fun K' hK'=>?_
 obtain⟨w',hrun,r1,r2,r3⟩:=h.range (P:=P) ht;unfold Oper.wp;simp[execOp,hop,hm,hrun,Result.andThen];exact hK' _ _ (hK w' r1 r2 r3)
theorem zQ (hg:o.guard=none) (it:Operand) (hop:o.op=Op.next it false) (r b:Nat) {enc:K->Value} {encV:V->Value} {L ss left:List (K×V)}
   (hit:a.eval it= .pointer (some ⟨r,0,none⟩)) (h:cg w r b enc encV L ss left)
   (hDone:left=[]->ss.Perm L->wpList P ops Q rest (a.put o.dst (.tuple #[.bool false])) w)
   (hMore:∀x left' w',cg w' r b enc encV L (ss++[x]) left'->left.length=left'.length+1->eE (· =r) w w'->w'.heap.size=w.heap.size->(Instr.entry (.pointer (some ⟨r,0,none⟩))).run P w'= .ok (.tuple #[enc x.1,encV x.2]) w'->
    wpList P ops Q rest (a.put o.dst (.tuple #[.bool true,enc x.1,encV x.2])) w'):wpList P ops Q (o::rest) a w:=by
 refine wpList_plain hg fun K' hK'=>?_
 unfold Oper.wp;rcases h.next (P:=P) o.type with⟨h0,hl,hrun⟩|⟨x,left',w',hrun,h1,h2,h3,h4,h5⟩
 . simp[execOp,hop,hit,hrun,Result.andThen];exact hK' _ _ (hDone h0 hl)
 . simp[execOp,hop,hit,hrun,Result.andThen];exact hK' _ _ (hMore x left' w' h1 h2 h3 h4 h5)
end
end
end Go.Gm
namespace Go.Proofs
open Go Go.Am Go.RowKit Go.Sy Go.Gm Go.Maps Go.Sort
section
section
variable {K V:Type} [DecidableEq K] {F:Fence} {n:Nat} {P:Program} (w:World) {ops:Array Oper} {rest:List Oper} {o:Oper} {a:Act} {Q:Exit->Act->World->Prop}
theorem J4 (hg:o.guard=none) (m:Operand) (t:TypeId) (hop:o.op=Op.range t m) {T Te:TypeId} (ht:P.underlying t=some (.map T Te)) (b:Nat) {enc:K->Value} {encV:V->Value} {L:List (K×V)}
  (hm:a.eval m= .map (some b)) (h:au w b enc encV L)
  (hK:∀w',cg w' w.heap.size b enc encV L [] L->w.grownBy w' none->w'.heap.size=w.heap.size+1->wpListIn F n P ops Q rest (a.put o.dst (.pointer (some ⟨w.heap.size,0,none⟩))) w'):wpListIn F n P ops Q (o::rest) a w:=by
 refine wpListIn_plain hg fun K' hK'=>?_
 obtain⟨w',hrun,r1,r2,r3⟩:=h.range (P:=P) ht;unfold Oper.wpIn;refine⟨by simp[Oper.about,hop],?_⟩;rw[Oper.semAt_plain F _ _ (by rw[hop];intro c hc';cases hc')];simp[execOp,hop,hm,hrun,Result.andThen];exact hK' _ _ (hK w' r1 ⟨r2.os,r2.tape,r2.output,r2.size,fun i hi _=>r2.block i hi⟩ r3)
theorem J3 (hg:o.guard=none) (it:Operand) (hop:o.op=Op.next it false) (r b:Nat) {enc:K->Value} {encV:V->Value} {L ss left:List (K×V)}
   (hit:a.eval it= .pointer (some ⟨r,0,none⟩)) (h:cg w r b enc encV L ss left)
   (hDone:left=[]->ss.Perm L->wpListIn F n P ops Q rest (a.put o.dst (.tuple #[.bool false])) w)
   (hMore:∀x left' w',cg w' r b enc encV L (ss++[x]) left'->left.length=left'.length+1->w.grownBy w' (some r)->w'.heap.size=w.heap.size->(Instr.entry (.pointer (some ⟨r,0,none⟩))).run P w'= .ok (.tuple #[enc x.1,encV x.2]) w'->
    wpListIn F n P ops Q rest (a.put o.dst (.tuple #[.bool true,enc x.1,encV x.2])) w'):wpListIn F n P ops Q (o::rest) a w:=by
 refine wpListIn_plain hg fun K' hK'=>?_
 unfold Oper.wpIn;refine⟨by simp[Oper.about,hop],?_⟩;rw[Oper.semAt_plain F _ _ (by rw[hop];intro c hc';cases hc')];rcases h.next (P:=P) o.type with⟨h0,hl,hrun⟩|⟨x,left',w',hrun,h1,h2,h3,h4,h5⟩
 . simp[execOp,hop,hit,hrun,Result.andThen];exact hK' _ _ (hDone h0 hl)
 . simp[execOp,hop,hit,hrun,Result.andThen];exact hK' _ _ (hMore x left' w' h1 h2 ⟨h3.os,h3.tape,h3.output,h3.size,fun i hi hne=>h3.block i hi fun e=>hne (by rw[e])⟩ h4 h5)
end
theorem _root_.Go.Gm.cg.iA {K V:Type} [DecidableEq K] {w w':World} {r b:Nat} {enc:K->Value} {encV:V->Value} {L ss left:List (K×V)} (h:cg w r b enc encV L ss left) (hk:KeepsWalks w w'):cg w' r b enc encV L ss left:=by
 obtain⟨⟨es,clk,seen,hb,hr,hs,hc,hi,hl⟩,hp⟩:=h;exact⟨⟨es,clk,seen,hk.same _ _ hb rfl,hr,hs,hc,hk.same _ _ hi rfl,hl⟩,hp⟩
theorem _root_.Go.Gm.cg.isWalk {K V:Type} [DecidableEq K] {w:World} {r b:Nat} {enc:K->Value} {encV:V->Value} {L ss left:List (K×V)} (h:cg w r b enc encV L ss left):∃o:Obj,w.heap[r]? =some o/\o.isWalk=true:=by
 obtain⟨⟨es,clk,seen,hb,hr,hs,hc,hi,hl⟩,hp⟩:=h;exact⟨_,hi,rfl⟩
theorem _root_.Go.Gm.cg.left_eq {K V:Type} [DecidableEq K] {w:World} {r b:Nat} {enc:K->Value} {encV:V->Value} {L ss left:List (K×V)} (h:cg w r b enc encV L ss left):w.rangeLeft b r=left.length:=by
 obtain⟨⟨es,clk,seen,hb,hr,hs,hc,hi,hl⟩,hp⟩:=h;have:=Ax List.length hl;simp only[A6,Array.length_toList]at this;unfold World.rangeLeft;rw[hb,hi];exact this
theorem SB (l Bm b n:Nat) (hn:1<=n) (L:DL) (J:List ag->World->Prop)
  (hY:∀pre x W,J pre W->pre.length<L.length->YieldAt Fence.wide (n - 1) Tryz.prog l #[bq x] W fun e W'=>e= .returned (.bool true)/\J (pre++[x]) W'/\KeepsWalks W W')
  (W:World) (hJ:AbidesFrom W.heap.size J) (hm:W.cell? ⟨Bm,0,none⟩=some (.map (some b))) (hown:au W b bq ch L) (h0:J [] W):
  CallsIn Fence.wide n Tryz.prog 231 #[.func (.yield l) #[] #[], .pointer (some ⟨Bm,0,none⟩)] W fun e W'=>(∃v,e= .returned v)/\ ∃ss:List ag,ss.Perm (L.map (·.1))/\J ss W':=by
 refine callsIn_of_wp Tryz.func231 rfl trivial ?_ rfl;simp only[Tryz.ntmps231,Br,A1,Bb,Nat.reduceAdd,Nat.reduceSub,Dx,Dw,DG,Dz,BE,Bh];gi_wp2_with (first
  |(gi_at_range;refine J4 _ rfl _ 101 rfl Tryz.underlying101 b rfl hown ?_;intro w0 hrg0 hg0 hs0)
  |gi_in)
 go_frame
 gi_loopw [3] (fun _ wr=>∃(ss left:DL),cg wr W.heap.size b bq ch L ss left/\ss.length+left.length=L.length/\J (ss.map (·.1)) wr/\W.heap.size<wr.heap.size)
  (fun _ wr=>wr.rangeLeft b W.heap.size)
 case atStart=>exact⟨[],L,hrg0,by simp,hJ [] W w0 none h0 hg0 (fun r e=>by cases e),by omega⟩
 case round=>
  obtain⟨ss,left,hrg,hcs,hJs,hbig⟩:=hrel;gi_wp2_with (first
    |(gi_at_next;refine J3 _ rfl _ rfl W.heap.size b rfl hrg ?_ ?_)
    |gi_in)
  . intro hl0 hperm;gi_wp2
    go_end0
    exact⟨⟨_,rfl⟩,_,hperm.map _,hJs⟩
  . intro d nn left' w2 hrg2 hlt hg2 hs2 hen;have hJ2:J (ss.map (·.1)) w2:=hJ _ wr w2 (some W.heap.size) hJs hg2 (fun r e=>by cases e;exact⟨Ah _,hrg.isWalk⟩);have hba:w2.grownBy (w2.alloc (.cells #[.int .i64 d.dev, .int .i64 d.inc, .int .i64 d.seq] 35)) none:=World.grownBy_alloc w2 _ none;have hJ3:=hJ _ w2 _ none hJ2 hba (fun r e=>by cases e);have hrg3:=hrg2.iA (KeepsWalks.alloc w2 (.cells #[.int .i64 d.dev, .int .i64 d.inc, .int .i64 d.seq] 35));obtain⟨fn,tmps,assign,body,hy,hR⟩:=hY (ss.map (·.1)) d _ hJ3 (by simp;omega);rw[show bq d= .agg #[.int .i64 d.dev, .int .i64 d.inc, .int .i64 d.seq]from rfl]at hen hy;clear hs2;gi_wp2
    refine hR.mono ?_;rintro e W3 ⟨rfl,hJ4,hk4⟩;gi_wp2
    have hrg4:=hrg3.iA hk4;have hz4:=hk4.size;have hz2:=hg2.size;go_roundw
    case rel=>exact⟨ss++[(d,nn)],left',hrg4,by simp;omega,by simpa using hJ4,by simp at hz4;omega⟩
    case measure=>rw[hrg4.left_eq,hrg.left_eq];omega
theorem RG (n:Nat) (hn:1<=n) (Bm b:Nat) (L:DL) (w:World) (hBm:Bm<w.heap.size) (hm:w.cell? ⟨Bm,0,none⟩=some (.map (some b))) (hown:au w b bq ch L):
  SeqGives Fence.wide n Tryz.prog 231 #[.pointer (some ⟨Bm,0,none⟩)] bq (fun ss=>ss.Perm (L.map (·.1))) L.length w:=fun l J W hW hJ hY h0=>
 SB l Bm b n hn L J hY W hJ ((hW.cell (p:=⟨Bm,0,none⟩) hBm).trans hm) (hown.same (hW.block b (Go.Gm.au.lt hown))) h0
end
end Go.Proofs
namespace Go.Proofs
open Go Go.Am Go.RowKit Go.Sy Go.Gm
section
section
variable [Inhabited aF]
theorem Ou {tab:aZ} {w:World} {l:List ag} {v:Value} (h:bY w l v):aI (bS tab w).get (cz l) (cO w.heap.size v):=by
 rcases h with⟨rfl,a,c,rfl⟩|⟨b,off,cap,arr,e,fz,rfl,hb,hc,hl,hi⟩
 . cases a with
   |none=>
    cases c with
    |zero=>exact .bL rfl (.inl rfl)
    |succ c=>exact .bL rfl (.inr (.inr ⟨_,_,rfl⟩))
   |some a=>rw[yg];exact .bL rfl (.inr (.inr ⟨_,_,rfl⟩))
 . refine ym hb (sz:=3) (by omega) (fun _ _=>rfl) hl rfl hc fun i x j s hx hs=>?_
   have hil:i<l.length:=(Ad.1 hx).1;have hxe:l[i]=x:=(Ad.1 hx).2;obtain⟨e0,e1,e2⟩:=hi i hil;rw[hxe]at e0 e1 e2;have hj:j<3:=(Ad.1 hs).1;match j,hj with
   |0,_=>cases hs;exact⟨_,e0, .int _ _⟩
   |1,_=>cases hs;exact⟨_,e1, .int _ _⟩
   |2,_=>cases hs;exact⟨_,e2, .int _ _⟩
theorem QV {tab:aZ} {w:World} {e:aa} {u:Value} (h:gY w u e):aI (bS tab w).get (.agg e.enc) (eH w.heap.size u):=by
 obtain⟨v,rfl,hd⟩:=h;have h18:=Ou (tab:=tab) hd;unfold fZ eH;refine .agg rfl fun i c x hc hx=>?_
 have hj:i<19:=(Ad.1 hc).1;match i,hj with
 |0,_|1,_|2,_|3,_|4,_|5,_|6,_|15,_|16,_|17,_=>cases hc;cases hx;exact .int _ _
 |7,_|8,_|9,_|10,_=>cases hc;cases hx;exact .str _
 |11,_|12,_|13,_|14,_=>cases hc;cases hx;exact .bool _
 |18,_=>cases hc;cases hx;exact h18
end
theorem JO {w:World} {e:aa} {u:Value} (h:gY w u e) (hs:jW e):Calls Tryz.prog 65 #[u] w fun e' w'=>e'= .returned (.bool (fC e))/\Below w.heap.size w w':=
 sT (C:=fun I=>fb jW fC) (fun I=> @GU I) (hfn:=rfl) (hb:=rfl) (args:=[u]) (fun I=>⟨e,hs,⟨rfl,fun j c v hc hv=>by
  match j with
  |0=>cases hc;cases hv;exact @QV I _ _ _ _ h
  |_+1=>cases hc⟩,rfl⟩)
def fm:List ag->List Value
 |[]=>[]
 |d::l=> .int .i64 d.dev:: .int .i64 d.inc:: .int .i64 d.seq::fm l
theorem wX:∀l,(fm l).length=l.length*3
 |[]=>rfl
 |d::l=>by simp only[fm,A1,wX l];omega
theorem zX:∀l,∀u∈fm l,u.oneCell'=true
 |[],u,h=>by cases h
 |d::l,u,h=>by
  simp only[fm,Aj]at h;rcases h with rfl|rfl|rfl|h
  . rfl
  . rfl
  . rfl
  . exact zX l u h
theorem p9:∀(l:List ag) (i:Nat) (h:i<l.length),(fm l)[i*3]? =some (.int .i64 l[i].dev)/\(fm l)[i*3+1]? =some (.int .i64 l[i].inc)/\(fm l)[i*3+2]? =some (.int .i64 l[i].seq)
 |d::l,0,_=>⟨rfl,rfl,rfl⟩
 |d::l,i+1,h=>by
  have:=p9 l i (by simpa using h);rw[show(i+1)*3=i*3+1+1+1 by omega];exact this
theorem KX (l:List ag) {j:Nat} {u:Value} (h:(fm l)[j]? =some u):∃i,∃hi:i<l.length,(j=i*3/\u= .int .i64 l[i].dev)\/(j=i*3+1/\u= .int .i64 l[i].inc)\/(j=i*3+2/\u= .int .i64 l[i].seq):=by
 have hj:j<l.length*3:=by rw[<-wX];exact(Ad.1 h).1
 have hi:j / 3<l.length:=by omega
 obtain⟨h0,h1,h2⟩:=p9 l (j / 3) hi;refine⟨j / 3,hi,?_⟩;rcases(by omega:j=j / 3*3\/j=j / 3*3+1\/j=j / 3*3+2)with e|e|e
 . rw[e,h0]at h;exact .inl ⟨e,(B8 h).symm⟩
 . rw[e,h1]at h;exact .inr (.inl ⟨e,(B8 h).symm⟩)
 . rw[e,h2]at h;exact .inr (.inr ⟨e,(B8 h).symm⟩)
theorem Nd {w:World} {base:Nat} {l:List ag} {v:Value} (h:w.ownsRow base 35 3 v l.length (fm l)):bY w l v:=by
 rcases h.2 with⟨rfl,h0⟩|⟨g,cap,cur,rfl,hb,hg,h1,h2,h3,h4⟩
 . exact .inl ⟨AQ.1 h0,_,_,rfl⟩
 . refine .inr ⟨g,0,cap,cur,35,(0,0),rfl,hg,h1,by omega,fun i hi=>?_⟩;obtain⟨e0,e1,e2⟩:=p9 l i hi;have key:∀j,j<l.length*3->cur[0+j]? =(fm l)[j]? :=fun j hj=>by
    rw[<-h4,Be,if_pos hj,Bd,Ay]
   exact⟨(key _ (by omega)).trans e0,(key (i*3+1) (by omega)).trans e1,(key (i*3+2) (by omega)).trans e2⟩
def jz (n:Nat) (l:List ag) (v:Value):Prop:=l=[]\/ ∃b off k c,v= .slice (some ⟨b,off,none⟩) k c/\n<=b
def cZ (w:World) (n:Nat) (l:List ag) (v:Value):Prop:=(l=[]/\ ∃a c,v= .slice a 0 c)\/ ∃b cap arr,v= .slice (some ⟨b,0,none⟩) l.length cap/\n<=b/\w.heap[b]? =some (.cells arr 35 (0,0))/\l.length<=cap/\l.length*3<=arr.size/\
 ∀i (h:i<l.length),arr[i*3]? =some (.int .i64 l[i].dev)/\arr[i*3+1]? =some (.int .i64 l[i].inc)/\arr[i*3+2]? =some (.int .i64 l[i].seq)
theorem cZ.cz {w:World} {n:Nat} {l:List ag} {v:Value} (h:cZ w n l v):bY w l v:=by
 rcases h with h|⟨b,cap,arr,rfl,hb,h1,h2,h3,h4⟩
 . exact .inl h
 . exact .inr ⟨b,0,cap,arr,35,(0,0),rfl,h1,h2,by rw[Ay];exact h3,fun i hi=>by rw[Ay];exact h4 i hi⟩
theorem cZ.mono {w:World} {n m:Nat} {l:List ag} {v:Value} (h:cZ w n l v) (hm:m<=n):cZ w m l v:=by
 rcases h with h|⟨b,cap,arr,rfl,hb,hr⟩
 . exact .inl h
 . exact .inr ⟨b,cap,arr,rfl,Aq hm hb,hr⟩
theorem cZ.aU {w w':World} {n:Nat} {l:List ag} {v:Value} (h:cZ w n l v) (hs:∀b arr,n<=b->w.heap[b]? =some (.cells arr 35 (0,0))->w'.heap[b]? =w.heap[b]?):cZ w' n l v:=by
 rcases h with h|⟨b,cap,arr,rfl,hb,h1,hr⟩
 . exact .inl h
 . exact .inr ⟨b,cap,arr,rfl,hb,(hs b arr hb h1).trans h1,hr⟩
theorem cZ.one {w:World} {n:Nat} {l:List ag} {v:Value} (h:cZ w n l v):∃a n c,v= .slice a n c:=by
 rcases h with⟨_,a,c,rfl⟩|⟨_,_,_,rfl,_⟩<;>exact⟨_,_,_,rfl⟩
theorem LO {w:World} {base:Nat} {l:List ag} {v:Value} (h:w.ownsRow base 35 3 v l.length (fm l)):cZ w base l v:=by
 rcases h.2 with⟨rfl,h0⟩|⟨g,cap,cur,rfl,hb,hg,h1,h2,h3,h4⟩
 . exact .inl ⟨AQ.1 h0,_,_,rfl⟩
 . refine .inr ⟨g,cap,cur,rfl,hb,hg,h1,by omega,fun i hi=>?_⟩;obtain⟨e0,e1,e2⟩:=p9 l i hi;have key:∀j,j<l.length*3->cur[j]? =(fm l)[j]? :=fun j hj=>by
    rw[<-h4,Be,if_pos hj,Bd]
   exact⟨(key _ (by omega)).trans e0,(key (i*3+1) (by omega)).trans e1,(key (i*3+2) (by omega)).trans e2⟩
theorem JU:(Tryz.prog.info? 35).map (fun i=>(i.zero,i.size,i.bytes))=some (some (.agg #[.int .i64 0, .int .i64 0, .int .i64 0]),3,24):=by kernel_rfl
theorem S5 {w:World} {l:List ag} {v:Value} (h:bY w l v) (hl:l.length<=100000):Calls Tryz.prog 112 #[v] w fun e w'=>∃v',e= .returned v'/\cZ w' w.heap.size l v'/\Below w.heap.size w w':=by
 have q40:∀(w:World) (a:Option Addr) (n c n' c':Nat),(binOp .eql 40 (.slice a n c) (.slice none n' c')).run Tryz.prog w= .ok (.bool a.isNone) w:=fun w a n c n' c'=>Lib.run_eql_slice_nil w _ _ a n c n' c' Tryz.underlying40
 obtain⟨i0,hi,hz0,hz1,hz2⟩:∃i0,Tryz.prog.info? 35=some i0/\i0.zero=some (.agg #[.int .i64 0, .int .i64 0, .int .i64 0])/\i0.size=3/\i0.bytes=24:=by
   have h:=JU
   cases e:Tryz.prog.info? 35 with
   |none=>rw[e]at h;cases h
   |some i=>rw[e]at h;simp only[A2,AL,BR]at h;exact⟨i,rfl,h.1,h.2.1,h.2.2⟩
 have go:∀(p:Addr) (c:Nat),(∀j u,(fm l)[j]? =some u->w.cell? (p.add j)=some u)->Calls Tryz.prog 112 #[.slice (some p) l.length c] w fun e w'=>∃v',e= .returned v'/\cZ w' w.heap.size l v'/\Below w.heap.size w w':=by
   intro p c hc;have A:Aside (∀j u,(fm l)[j]? =some u->w.cell? (p.add j)=some u):=hc;clear hc;go_enter Tryz.func112,Tryz.ntmps112
   go_wp2_with (at_builtin;refine wpList_append_own _ rfl _ _ 40 rfl w.heap.size 35 i0 _ 3 24 Tryz.underlying40 hi hz0 hz1 hz2 rfl (by omega) _ _ _ rfl (World.ownsRow_made w #[] 0 (Ah _) (Av _) (by simp)) p l.length c (fm l) rfl ?qc1 ?qc2 ?qc3 ?qc4 ?qc5 ?qc6 ?_)
   case qc1=>exact wX l
   case qc2=>
     intro j u hj;exact Lib.cell?_alloc_some _ (A.out j u hj)
   case qc3=>exact zX l
   case qc4=>rw[Ay];unfold maxLen;omega
   case qc5=>rw[Ay];omega
   case qc6=>simp
   intro v' w1 hown hgrow hnil;go_wp2;go_ret;refine⟨v',rfl,LO (by simpa using hown),?_⟩;exact((Below.refl _ w).alloc (Ah _) _).grown hgrow (by simp) (by intro k hk;simp[Value.ownBlock]at hk;omega)
 rcases h with⟨rfl,a,c,rfl⟩|⟨b,off,cap,arr,e,fz,rfl,hb,hc,hl2,hi2⟩
 . cases a with
   | none=>
     clear go;go_enter Tryz.func112,Tryz.ntmps112
     go_wp2;go_ret;exact⟨_,rfl, .inl ⟨rfl,_,_,rfl⟩,Below.refl _ _⟩
   | some a=>
     exact go a c fun j u hj=>by cases hj
 . refine go ⟨b,off,none⟩ cap fun j u hj=>?_
   rw[Addr.add_lit];obtain⟨i,hil,hh⟩:=KX l hj;obtain⟨e0,e1,e2⟩:=hi2 i hil;have cell:∀{j:Nat} {u:Value},arr[j]? =some u->w.cell? ⟨b,j,none⟩=some u:=fun hx=>by
     unfold World.cell?;simp only[hb,Bi,Ak,Aw];exact hx
   rcases hh with⟨rfl,rfl⟩|⟨rfl,rfl⟩|⟨rfl,rfl⟩
   . exact cell e0
   . rw[<-BZ];exact cell e1
   . rw[<-BZ];exact cell e2
end
end Go.Proofs
namespace Go.Proofs
open Go Go.Am Go.RowKit Go.Sy Go.Gm Go.Maps Go.Sort
def jK:Code->Option (Code×Code)
 | .rangeFunc _ _ a b=>some (a,b)
 | .seq a b=>match jK a with
  |some x=>some x
  |none=>jK b
 | .block _ c=>jK c
 | .scope c=>jK c
 | .loop c=>jK c
 |_=>none
noncomputable def zB:Code:=((Tryz.f253.body.bind jK).getD (.skip, .skip)).1
noncomputable def zC:Code:=((Tryz.f253.body.bind jK).getD (.skip, .skip)).2
noncomputable def kN (fn:FuncId) (sv:Value) (Bs D:Nat) (st:LoopState) (ke:Option Code):Loop:=
 {state:=st,pending:=ke,fn,tmps:=#[.slice none 0 0,sv, .pointer (some ⟨Bs,0,none⟩),undef, .slice none 0 0,undef,sv,undef,undef,undef,undef,undef,undef],params:=#[7],assign:=zB,body:=zC,defers:=D}
structure re (w0:World) (fn:FuncId) (sv:Value) (Bs l D:Nat) (ss:List ag) (W:World):Prop where
 box:∃v,W.heap[Bs]? =some (.cells #[v] 40 (0,0))/\W.ownsRow w0.heap.size 35 3 v ss.length (fm ss)
 L:W.heap[l]? =some (.loop (kN fn sv Bs D .ready none))
 K:W.heap[D]? =some (.deferred (some []))
 below:Below w0.heap.size w0 W
theorem Lu (w0:World) (fn:FuncId) (sv:Value) (Bs l D B:Nat) (hB:w0.heap.size<=B):AbidesFrom B (re w0 fn sv Bs l D):=fun s W W' row h hg hrow=>by
 have hrow':∀r,row=some r->∃o:Obj,W.heap[r]? =some o/\o.isWalk=true:=fun r e=>(hrow r e).2
 obtain⟨v,hv,hr⟩:=h.box;exact⟨⟨v,(grownBy_keeps hg hrow' hv rfl).trans hv,ownsRow_abides_a hr hg hrow'⟩,(grownBy_keeps hg hrow' h.L rfl).trans h.L,(grownBy_keeps hg hrow' h.K rfl).trans h.K,h.below.grown hg h.below.size (fun k e=>Aq hB (hrow k e).1)⟩
theorem zN (l:List ag) (x:ag):fm (l++[x])=fm l++[.int .i64 x.dev, .int .i64 x.inc, .int .i64 x.seq]:=by
 induction l with
 |nil=>rfl
 |cons d l ih=>simp only[Bh,fm,ih]
theorem Jr:∃i0,Tryz.prog.info? 35=some i0/\i0.zero=some (.agg #[.int .i64 0, .int .i64 0, .int .i64 0])/\i0.size=3/\i0.bytes=24:=by
 have h:=JU
 cases e:Tryz.prog.info? 35 with
 |none=>rw[e]at h;cases h
 |some i=>rw[e]at h;simp only[A2,AL,BR]at h;exact⟨i,rfl,h.1,h.2.1,h.2.2⟩
theorem SX (m:Nat) (w0:World) (fn:FuncId) (sv:Value) (Bs l D:Nat) (hBl:Bs≠l) (hDl:D≠l) (hDB:D≠Bs) (h0B:w0.heap.size<=Bs) (h0l:w0.heap.size<=l)
  (N:Nat) (hN:N<=1000000) (ss:List ag) (x:ag) (W:World) (h:re w0 fn sv Bs l D ss W) (hlen:ss.length<N):
  YieldAt Fence.wide m Tryz.prog l #[bq x] W fun e W'=>e= .returned (.bool true)/\re w0 fn sv Bs l D (ss++[x]) W'/\KeepsWalks W W':=by
 obtain⟨i0,hi,hz0,hz1,hz2⟩:=Jr;obtain⟨v,hv,hrow⟩:=h.box;refine⟨fn,#[.slice none 0 0,sv, .pointer (some ⟨Bs,0,none⟩),undef, .slice none 0 0,undef,sv,bq x,undef,undef,undef,undef,undef],zB,zC,by simpa [kN]using run_yield (P:=Tryz.prog) (args:=#[bq x]) h.L rfl,roundIn_of_wpIn trivial ?_⟩;have hl:l<W.heap.size:=(Ac.1 h.L).1;have hne:∀cur:Array Value,Obj.cells #[v] 40 (0,0)≠ .cells cur 35 (0,0):=fun cur e=>by
  have:=(Obj.cells.inj e).2.1;exact absurd this (by decide)
 obtain⟨W1,hW1⟩:∃W1,W.alloc (.cells #[.int .i64 x.dev, .int .i64 x.inc, .int .i64 x.seq] 35)=W1:=⟨_,rfl⟩;have hs1:W1.heap.size=W.heap.size+1:=by rw[<-hW1];simp
 have hold1:∀k,k<W.heap.size->W1.heap[k]? =W.heap[k]? :=fun k hk=>by rw[<-hW1];exact Below.heap_alloc _ _ k hk
 have hBlt0:Bs<W.heap.size:=(Ac.1 hv).1;have hDlt0:D<W.heap.size:=(Ac.1 h.K).1;have hv1:W1.heap[Bs]? =some (.cells #[v] 40 (0,0)):=(hold1 Bs hBlt0).trans hv;have hL1:W1.heap[l]? =some (.loop (kN fn sv Bs D .ready none)):=(hold1 l hl).trans h.L;have hK1:W1.heap[D]? =some (.deferred (some [])):=(hold1 D hDlt0).trans h.K;have hrow1:W1.ownsRow w0.heap.size 35 3 v ss.length (fm ss):=by rw[<-hW1];exact hrow.alloc _
 have hb1:Below w0.heap.size w0 W1:=by rw[<-hW1];exact h.below.alloc h.below.size _
 have hk1:KeepsWalks W W1:=by rw[<-hW1];exact KeepsWalks.alloc _ _
 have x0':W1.cell? ⟨W.heap.size,0,none⟩=some (.int .i64 x.dev):=by rw[<-hW1];simp
 have x1':W1.cell? ⟨W.heap.size,1,none⟩=some (.int .i64 x.inc):=by rw[<-hW1];simp
 have x2':W1.cell? ⟨W.heap.size,2,none⟩=some (.int .i64 x.seq):=by rw[<-hW1];simp
 have hbr:=run_beginRound (P:=Tryz.prog) hL1 rfl;obtain⟨W2,hW2⟩:∃W2,W1.putObj l (.loop {kN fn sv Bs D .ready none with state:= .busy})=W2:=⟨_,rfl⟩;rw[hW2]at hbr;have hg2:W1.grownBy W2 (some l):=by rw[<-hW2];exact grownBy_putObj_a _ _ _
 have hk2:KeepsWalks W1 W2:=by rw[<-hW2];exact KeepsWalks.putObj _ hL1 rfl
 have hv2:W2.heap[Bs]? =some (.cells #[v] 40 (0,0)):=by rw[<-hW2];exact(World.putObj_heap_other hBl).trans hv1
 have hK2:W2.heap[D]? =some (.deferred (some [])):=by rw[<-hW2];exact(World.putObj_heap_other hDl).trans hK1
 have hL2:W2.heap[l]? =some (.loop {kN fn sv Bs D .ready none with state:= .busy}):=by rw[<-hW2];exact World.putObj_heap_same (by omega)
 have hrow2:W2.ownsRow w0.heap.size 35 3 v ss.length (fm ss):=hrow1.kept hg2 (ownsRow_ne_a hrow1 hL1 (fun cur e=>by cases e));have hb2:Below w0.heap.size w0 W2:=hb1.grown hg2 hb1.size (fun k e=>by cases e;exact h0l);have hs2:W2.heap.size=W.heap.size+1:=by rw[<-hW2];simp[hs1]
 have hbx:W2.heap[W.heap.size]? =W1.heap[W.heap.size]? :=by rw[<-hW2];exact World.putObj_heap_other (by omega)
 have x0:=dT x0' hbx;have x1:=dT x1' hbx;have x2:=dT x2' hbx;obtain⟨hc2,hf2⟩:=cell_of_box_a hv2;have hBlt:Bs<W2.heap.size:=(Ac.1 hv2).1;have hl2:l<W2.heap.size:=(Ac.1 hL2).1;have hDlt:D<W2.heap.size:=(Ac.1 hK2).1;have ne_of:∀{j:Nat} {o:Obj},W2.heap[j]? =some o->(∀cur,o≠ .cells cur 35 (0,0))->some j≠v.ownBlock:=fun hj hno=>by
  rcases ownsRow_ne_a hrow2 hj hno with e|e
  . rw[e];simp
  . exact fun e'=>e e'.symm
 clear hW2;rw[show bq x= .agg #[.int .i64 x.dev, .int .i64 x.inc, .int .i64 x.seq]from rfl];conv=>arg 4;whnf
 gi_wp2_with gi_round_op_a
 conv=>arg 4;whnf
 obtain⟨W2b,hW2b⟩:∃W2b,W2.alloc (.cells #[.int .i64 x.dev, .int .i64 x.inc, .int .i64 x.seq] 35)=W2b:=⟨_,rfl⟩;have hrow2b:W2b.ownsRow w0.heap.size 35 3 v ss.length (fm ss):=by rw[<-hW2b];exact hrow2.alloc _
 have hs2b:W2b.heap.size=W2.heap.size+1:=by rw[<-hW2b];simp
 have hold2b:∀k,k<W2.heap.size->W2b.heap[k]? =W2.heap[k]? :=fun k hk=>by rw[<-hW2b];exact Below.heap_alloc _ _ k hk
 have y0:W2b.cell? ⟨W2.heap.size,0,none⟩=some (.int .i64 x.dev):=by rw[<-hW2b];simp
 have y1:W2b.cell? ⟨W2.heap.size,1,none⟩=some (.int .i64 x.inc):=by rw[<-hW2b];simp
 have y2:W2b.cell? ⟨W2.heap.size,2,none⟩=some (.int .i64 x.seq):=by rw[<-hW2b];simp
 rw[hs2]at y0 y1 y2;have hcells:∀j u,([Value.int .i64 x.dev, .int .i64 x.inc, .int .i64 x.seq]:List Value)[j]? =some u->W2b.cell? ((⟨W.heap.size+1,0,none⟩:Addr).add j)=some u:=fun j u hj=>by
  rw[Addr.add_lit];match j with
  |0=>cases hj;exact y0
  |1=>cases hj;exact y1
  |2=>cases hj;exact y2
  |_+3=>cases hj
 have hb2b:Below w0.heap.size w0 W2b:=by rw[<-hW2b];exact hb2.alloc hb2.size _
 have hz2b:w0.heap.size<=W2b.heap.size:=hb2b.size;gi_wp2_with (first
  |(gi_at_builtin;refine wpListIn_append_own _ rfl _ _ 40 rfl w0.heap.size 35 i0 _ 3 24 Tryz.underlying40 hi hz0 hz1 hz2 rfl (by decide) _ _ _ rfl hrow2b ⟨W.heap.size+1,0,none⟩ 1 1 [.int .i64 x.dev, .int .i64 x.inc, .int .i64 x.seq] rfl rfl hcells (by simp[Value.oneCell']) (by unfold maxLen;omega) (by omega) hz2b ?_;intro v' w3 hown' hg3 hnil3;have hg3':W2b.grownBy w3 v.ownBlock:=hg3;have hv3:w3.heap[Bs]? =some (.cells #[v] 40 (0,0)):=(hg3'.block Bs (by omega) (ne_of hv2 hne)).trans ((hold2b Bs hBlt).trans hv2);obtain⟨hc3,hf3⟩:=cell_of_box_a hv3;obtain⟨g',cap',cur',rfl,hbase',hgb',hr1,hr2,hr3,hr4⟩:∃g' cap' cur',v'= .slice (some ⟨g',0,none⟩) (ss.length+1) cap'/\w0.heap.size<=g'/\w3.heap[g']? =some (.cells cur' 35 (0,0))/\ss.length+1<=cap'/\cap'<=maxLen/\cur'.size=cap'*3/\cur'.toList.take ((ss.length+1)*3)=fm ss++[.int .i64 x.dev, .int .i64 x.inc, .int .i64 x.seq]:=hown'.2.resolve_left (fun hh=>absurd hh.2 (by omega));go_frame)
  |gi_round_op_a)
 have hL3:w3.heap[l]? =some (.loop {kN fn sv Bs D .ready none with state:= .busy}):=(hg3'.block l (by omega) (ne_of hL2 (fun cur e=>by cases e))).trans ((hold2b l hl2).trans hL2);have hK3:w3.heap[D]? =some (.deferred (some [])):=(hg3'.block D (by omega) (ne_of hK2 (fun cur e=>by cases e))).trans ((hold2b D hDlt).trans hK2);obtain⟨w4,hw4⟩:∃w4,w3.setCell ⟨Bs,0,none⟩ (.slice (some ⟨g',0,none⟩) (ss.length+1) cap')=w4:=⟨_,rfl⟩;rw[hw4];have hg4:w3.grownBy w4 (some Bs):=by rw[<-hw4];exact grownBy_setCell0_a _ _ _
 have hv4:w4.heap[Bs]? =some (.cells #[.slice (some ⟨g',0,none⟩) (ss.length+1) cap'] 40 (0,0)):=by rw[<-hw4];exact heap_setCell_box_a _ hv3
 have hL4:w4.heap[l]? =some (.loop {kN fn sv Bs D .ready none with state:= .busy}):=(hg4.block l (Ac.1 hL3).1 (fun e=>hBl (by cases e;rfl))).trans hL3;have hK4:w4.heap[D]? =some (.deferred (some [])):=(hg4.block D (Ac.1 hK3).1 (fun e=>hDB (by cases e;rfl))).trans hK3;have hrow4:=hown'.kept hg4 (ownsRow_ne_a hown' hv3 hne);have hl4:l<w4.heap.size:=(Ac.1 hL4).1;have hb3:Below w0.heap.size w0 w3:=hb2b.grown hg3' hz2b (fun k e=>(hrow2b.lt k e).1);have hb4:Below w0.heap.size w0 w4:=hb3.grown hg4 hb3.size (fun k e=>by cases e;exact h0B);have hk2b:KeepsWalks W2 W2b:=by rw[<-hW2b];exact KeepsWalks.alloc _ _
 have hk4:KeepsWalks W w4:=(((hk1.trans hk2).trans hk2b).trans (KeepsWalks.of_grownBy hg3' (ownsRow_not_walk_a hrow2b))).trans (by rw[<-hw4];exact KeepsWalks.setCell _ _ _);clear hw4;refine⟨_,_,run_endRound none hL4,rfl,⟨⟨_,(World.putObj_heap_other hBl).trans hv4,?_⟩,World.putObj_heap_same hl4,(World.putObj_heap_other hDl).trans hK4,hb4.grown (grownBy_putObj_a _ _ _) hb4.size (fun k e=>by cases e;exact h0l)⟩,hk4.trans (KeepsWalks.putObj _ hL4 rfl)⟩;have:=hrow4.kept (grownBy_putObj_a w4 l (.loop {{kN fn sv Bs D .ready none with state:= .busy}with state:=if(none:Option Code).isNone then .ready else .done,pending:=none})) (ownsRow_ne_a hrow4 hL4 (fun cur e=>by cases e));rw[zN];simpa using this
end Go.Proofs
