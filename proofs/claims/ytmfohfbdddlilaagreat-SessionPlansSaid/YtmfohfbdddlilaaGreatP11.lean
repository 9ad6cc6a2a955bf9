/- Part 11: an evaluator, proved sound, and its use at this seat; no condition. -/
import Derived.IntWalk
import Derived.WalkKit
import Derived.Deep.RegionWith
import Derived.Maps.RangeWalk
import Derived.Shelf.SlIter.Collect
import Derived.OwnWalk
import Derived.Deep.LoopGhost
import Derived.Lib.Walk
import Derived.Lib.SliceRun
import Derived.Shelf.SlSortCmp.WholeK
import Derived.Test.YtmfohfbdddlilaaGreatProg
import Derived.Deep.MidRow
import Derived.Test.YtmfohfbdddlilaaGreatP7
import Derived.Test.YtmfohfbdddlilaaGreatP8
import Derived.Test.YtmfohfbdddlilaaGreatP10
set_option linter.unusedSimpArgs false
set_option linter.unusedVariables false
set_option linter.unusedSectionVars false
set_option linter.deprecated false
set_option maxRecDepth 100000
set_option maxHeartbeats 4000000
namespace Go.Proofs
open Go Go.Am Go.RowKit Go.Sy Go.Gm
theorem HG (a i n:Int) (w:World):Calls Tryz.prog 107 #[.agg #[.int .i64 a, .int .i64 i, .int .i64 n]] w fun e w'=>e= .returned (.bool (fB ⟨a,i,n⟩))/\Below w.heap.size w w':=
 yf (C:=fun I=>uX fB) (fun I=> @Nb I) (hfn:=rfl) (hb:=rfl) (args:=[.agg #[.int .i64 a, .int .i64 i, .int .i64 n]]) (fun I=>⟨⟨a,i,n⟩,trivial,⟨rfl,fun j c v hc hv=>by
  match j with
  |0=>cases hc;cases hv;exact CT [a,i,n]
  |_+1=>cases hc⟩,rfl⟩)
theorem UF {a i n:Int} (hd:fB ⟨a,i,n⟩=true):IntKind.i64.wrap (n - 1)=n - 1:=by
 letI:Inhabited aL:=⟨⟨True,#[]⟩⟩
 have h:bU 1 n=true/\bU n 4294967296=true:=by
  unfold fB at hd;simp only[Ac]at hd;exact⟨hd.1.2,hd.2⟩
 rw[fi,fi,Ab,Ab]at h;exact IntWalk.i64_in _ (by omega)
theorem O4 {w:World} {bs bv:Nat} {L:List ((Int×Int)×Int)} (hs:w.cell? ⟨bs,0,none⟩=some (.map (some bv))) (hm:aC w bv eH cN L) (a i n:Int) (hne:bs≠bv) (hd:fB ⟨a,i,n⟩=true) (hlt:(aE L (a,i)).getD 0=n - 1):
    Calls Tryz.prog 69 #[.pointer (some ⟨bs,0,none⟩), .agg #[.int .i64 a, .int .i64 i, .int .i64 n]] w fun e w'=>e= .returned (.bool true)/\eS (· =bv) w w'/\aC w' bv eH cN (cB L (a,i) n):=by
  have hc:=fun w=>HG a i n w
  rw[hd]at hc;have hbv:bv<w.heap.size:=by
    obtain⟨es,clk,h,_⟩:=hm.at_;exact(Ad.1 h).1
  have hbs:bs<w.heap.size:=by
    unfold World.cell? at hs
    cases h:w.heap[bs]? with
    |none=>simp[h]at hs
    |some o=>exact(Ad.1 h).1
  go_enter Tryz.func69,Tryz.ntmps69
  go_wp2_with fail
  have hq:Below w.heap.size w (w.alloc (.cells #[.int .i64 a, .int .i64 i, .int .i64 n] 35)).drew:=((Below.refl w.heap.size w).alloc (Ai _) _).drew;have hsz:(w.alloc (.cells #[.int .i64 a, .int .i64 i, .int .i64 n] 35)).drew.heap.size=w.heap.size+1:=by simp
  have hn0:(w.alloc (.cells #[.int .i64 a, .int .i64 i, .int .i64 n] 35)).drew.cell? ⟨w.heap.size,0,none⟩=some (.int .i64 a):=by simp
  have hn1:(w.alloc (.cells #[.int .i64 a, .int .i64 i, .int .i64 n] 35)).drew.cell? ⟨w.heap.size,1,none⟩=some (.int .i64 i):=by simp
  have hn2:(w.alloc (.cells #[.int .i64 a, .int .i64 i, .int .i64 n] 35)).drew.cell? ⟨w.heap.size,2,none⟩=some (.int .i64 n):=by simp
  have hw:IntKind.i64.wrap (n - 1)=n - 1:=UF hd;have hge:∀{x:World} (_:x.cell? ⟨bs,0,none⟩=some (.map (some bv))) (_:aC x bv eH cN L),Calls Tryz.prog 67 #[.pointer (some ⟨bs,0,none⟩), .agg #[.int .i64 a, .int .i64 i]] x fun e w'=>e= .returned (.int .i64 (n - 1))/\Below x.heap.size x w':=fun h1 h2=>by
    have:=lM h1 h2 a i;rw[hlt]at this;exact this
  go_region_with (first
   |(go_at_call 107;refine(hc _).mono ?_;rintro e w1 ⟨rfl,hb⟩;have hq1:=hq.trans (hb.mono (by rw[hsz];omega));have hs1:w1.cell? ⟨bs,0,none⟩=some (.map (some bv)):=(hq1.cell hbs).trans hs;have hm1:aC w1 bv eH cN L:=hm.same (hq1.block bv hbv);have hz1:=hb.size;have hb0:=(hb.cell (p:=⟨w.heap.size,0,none⟩) (by rw[hsz];show w.heap.size<_;omega)).trans hn0;have hb1:=(hb.cell (p:=⟨w.heap.size,1,none⟩) (by rw[hsz];show w.heap.size<_;omega)).trans hn1;have hb2:=(hb.cell (p:=⟨w.heap.size,2,none⟩) (by rw[hsz];show w.heap.size<_;omega)).trans hn2)
   |(go_at_call 67;refine(hge (by assumption) (by assumption)).mono ?_;rintro e w2 ⟨rfl,hc2⟩;have hq2:=hq1.trans (hc2.mono (by rw[hsz]at hz1;omega));have hs2:w2.cell? ⟨bs,0,none⟩=some (.map (some bv)):=(hq2.cell hbs).trans hs;have hm2:aC w2 bv eH cN L:=hm.same (hq2.block bv hbv);have hc0:=(hc2.cell (p:=⟨w.heap.size,0,none⟩) (by rw[hsz]at hz1;show w.heap.size<_;omega)).trans hb0;have hc1:=(hc2.cell (p:=⟨w.heap.size,1,none⟩) (by rw[hsz]at hz1;show w.heap.size<_;omega)).trans hb1;have hc2':=(hc2.cell (p:=⟨w.heap.size,2,none⟩) (by rw[hsz]at hz1;show w.heap.size<_;omega)).trans hb2)
   |(go_at_call 111;refine(Pl hs2 hm2 a i n hne hd (by omega)).mono ?_;rintro e w3 ⟨rfl,hbut,hm3⟩))
  all_goals (go_wp2)
  all_goals (go_ret)
  all_goals (exact⟨rfl,(lK hq2).trans hbut,hm3⟩)
section
def jJ (w w':World):Prop:=∀(b:Nat) (arr:Array Value) (e:TypeId) (fz:Nat×Nat),w.heap[b]? =some (.cells arr e fz)->w'.heap[b]? =some (.cells arr e fz)
theorem V3 [Inhabited aL] {w w':World} {p:Nat->Prop} {g:Bool} (hc:jJ w w') {s:SV} {v:Value} (h:Rd w p g s v):Rd w' p g s v:=by
 induction h with
 |bool b=>exact .bool b
 |int k n=>exact .int k n
 |str s=>exact .str s
 |bq=>exact .bq
 |wp a=>exact .wp a
 |nils=>exact .nils
 |bK=>exact .bK
 |bP=>exact .bP
 |any v=>exact .any v
 |fn h v=>exact .fn h v
 |cR h v=>exact .cR h v
 |fU h0=>exact .fU h0
 |cf h h0 a c=>exact .cf h h0 a c
 |aj b off cap arr e fz sz u hp hb hs hl hn hcc h1 _ ih=>exact .aj b off cap arr e fz sz u hp (hc _ _ _ _ hb) hs hl hn hcc h1 ih
 |agg h1 _ ih=>exact .agg h1 ih
 |bJ h1 _ ih=>exact .bJ h1 ih
def cK (w:World) (l:List ar) (v:Value):Prop:=(l=[]/\ ∃a c,v= .slice a 0 c)\/ ∃b off cap arr e fz,v= .slice (some ⟨b,off,none⟩) l.length cap/\w.heap[b]? =some (.cells arr e fz)/\l.length<=cap/\off+l.length*3<=arr.size/\
 ∀i (h:i<l.length),arr[off+i*3]? =some (.int .i64 l[i].dev)/\arr[off+i*3+1]? =some (.int .i64 l[i].inc)/\arr[off+i*3+2]? =some (.int .i64 l[i].seq)
theorem iN [Inhabited aL] {w:World} {p:Nat->Prop} {g:Bool} {k:IntKind} {n:Int} {v:Value} (h:Rd w p g (.int k n) v):v= .int k n:=by cases h;rfl
theorem pc [Inhabited aL] {w:World} {p:Nat->Prop} {g:Bool} {s:Bs} {v:Value} (h:Rd w p g (.str s) v):v= .string ⟨s.toArray⟩:=by cases h;rfl
theorem rX [Inhabited aL] {w:World} {p:Nat->Prop} {g:Bool} {b:Bool} {v:Value} (h:Rd w p g (.bool b) v):v= .bool b:=by cases h;rfl
theorem xe [Inhabited aL] {w:World} {p:Nat->Prop} {g:Bool} {l:List ar} {v:Value} (h:Rd w p g (cw l) v):cK w l v:=by
 unfold cw at h
 cases h with
 |fU h0=>exact .inl ⟨AQ.1 h0,_,_,rfl⟩
 |cf h h0 a c=>exact .inl ⟨AQ.1 h0,_,_,rfl⟩
 |aj b off cap arr e fz sz u hp hb hs hl hn hc h1 h2=>
  by_cases h0:l=[]
  . subst h0;exact .inl ⟨rfl,_,_,rfl⟩
  . have hsz:sz=3:=by
     obtain⟨x,l',rfl⟩:=Ec h0;exact(hn 0 x rfl).symm
    subst hsz;refine .inr ⟨b,off,cap,arr,e,fz,rfl,hb,hc,hl,fun i hi=>?_⟩;have hx:l[i]? =some l[i]:=Af hi;have e0:=h1 i _ 0 _ hx rfl;have e1:=h1 i _ 1 _ hx rfl;have e2:=h1 i _ 2 _ hx rfl;rw[iN (h2 i _ 0 _ hx rfl)]at e0;rw[iN (h2 i _ 1 _ hx rfl)]at e1;rw[iN (h2 i _ 2 _ hx rfl)]at e2;exact⟨e0,e1,e2⟩
theorem CH [Inhabited aL] {w:World} {l:List ar} {v:Value} (h:cK w l v):Rd w (fun _=>True) true (cw l) v:=by
 unfold cw;rcases h with⟨rfl,a,c,rfl⟩|⟨b,off,cap,arr,e,fz,rfl,hb,hc,hl,hi⟩
 . exact .cf rfl rfl a c
 . refine .aj b off cap arr e fz 3 (fun i j=>(arr[off+i*3+j]?).getD (.bool false)) trivial hb (by decide) hl (fun _ _ _=>rfl) hc (fun i x j v hx hv=>?_) (fun i x j v hx hv=>?_)
   all_goals
    have hil:i<l.length:=(Ae.1 hx).1;have hxe:l[i]=x:=(Ae.1 hx).2;obtain⟨e0,e1,e2⟩:=hi i hil;rw[hxe]at e0 e1 e2;have hj:j<3:=(Ae.1 hv).1;match j,hj with
    |0,_=>cases hv;first|exact e0.trans (by rw[BL,e0];rfl)|(simp only[BL,e0,BB];exact .int _ _)
    |1,_=>cases hv;first|exact e1.trans (by rw[e1];rfl)|(simp only[e1,BB];exact .int _ _)
    |2,_=>cases hv;first|exact e2.trans (by rw[e2];rfl)|(simp only[e2,BB];exact .int _ _)
theorem cK.cells {w w':World} (hc:jJ w w') {l:List ar} {v:Value} (h:cK w l v):cK w' l v:=by
 rcases h with h|⟨b,off,cap,arr,e,fz,h1,h2,h3⟩
 . exact .inl h
 . exact .inr ⟨b,off,cap,arr,e,fz,h1,hc _ _ _ _ h2,h3⟩
abbrev da (s:Bs):Value:= .string ⟨s.toArray⟩
def ic (e:ae) (v:Value):Value:= .agg #[.int .i64 e.dot.dev, .int .i64 e.dot.inc, .int .i64 e.dot.seq, .int .i64 e.bu.wall, .int .i64 e.bu.count, .int .i64 e.bu.dev, .int .i64 e.kind,da e.key.name,da e.key.domain,da e.key.path,
 da e.ab.value, .bool e.ab.aF, .bool e.ab.aV, .bool e.ab.aG, .bool e.ab.persistent, .int .i64 e.ab.aP, .int .i64 e.ab.aq, .int .i64 e.ab.access,v]
def iP (w:World) (u:Value) (e:ae):Prop:=∃v,u=ic e v/\cK w e.over v
theorem iP.cells {w w':World} (hc:jJ w w') {u:Value} {e:ae} (h:iP w u e):iP w' u e:=by
 obtain⟨v,h1,h2⟩:=h;exact⟨v,h1,h2.cells hc⟩
def qv (x:Value×ae):Value:=x.1
def oE (x:Nat×DL):Value:= .map (some x.1)
structure cW (w:World) (n b bk ba bd bs bv:Nat) (G:bD):Prop where
 c0:w.cell? ⟨b,0,none⟩=some (.map (some bk))
 c1:w.cell? ⟨b,1,none⟩=some (.map (some ba))
 c2:w.cell? ⟨b,2,none⟩=some (.map (some bd))
 c3:w.cell? ⟨b,3,none⟩=some (.pointer (some ⟨bs,0,none⟩))
 cv:w.cell? ⟨bs,0,none⟩=some (.map (some bv))
 ir:aC w bk bT qv G.kept
 ma:aC w ba dw oE G.alive
 md:aC w bd bT cN G.dead
 mv:aC w bv eH cN G.vec
 mi:∀x∈G.alive,aC w x.2.1 bT cN x.2.2
 nd:(bk::ba::bd::bv::G.alive.map (·.2.1)).Nodup
 low:∀j∈b::bs::bk::ba::bd::bv::G.alive.map (·.2.1),n<=j
 ev:∀x∈G.kept,iP w x.2.1 x.2.2
def dW (bk ba bd bv:Nat) (G:bD) (j:Nat):Prop:=j∈bk::ba::bd::bv::G.alive.map (·.2.1)
def ly (w:World) (j:Nat):Prop:=∃es clk,w.heap[j]? =some (.map es clk)
section
variable {K V:Type} [DecidableEq K]
theorem _root_.Go.Gm.aC.isMap {w:World} {b:Nat} {enc:K->Value} {encV:V->Value} {L:List (K×V)} (h:aC w b enc encV L):ly w b:=by
 obtain⟨es,clk,h,_⟩:=h.at_;exact⟨es,clk,h⟩
theorem _root_.Go.Gm.aC.lt {w:World} {b:Nat} {enc:K->Value} {encV:V->Value} {L:List (K×V)} (h:aC w b enc encV L):b<w.heap.size:=by
 obtain⟨es,clk,h,_⟩:=h.at_;exact(Ad.1 h).1
theorem _root_.Go.Gm.aC.repr {w:World} {b:Nat} {enc:K->Value} {encV:V->Value} {L L':List (K×V)} (h:aC w b enc encV L) (hk:L'.map (·.1)=L.map (·.1)) (hv:L'.map (fun x=>(enc x.1,encV x.2))=L.map fun x=>(enc x.1,encV x.2)):aC w b enc encV L':=by
 obtain⟨⟨es,clk,h1,h2,h3⟩,h4⟩:=h;exact⟨⟨es,clk,h1,h2.trans hv.symm,h3⟩,by rw[hk];exact h4⟩
end
theorem iA {w:World} {b o:Nat} {v:Value} (h:w.cell? ⟨b,o,none⟩=some v):b<w.heap.size:=by
 unfold World.cell? at h
 cases e:w.heap[b]? with
 |none=>simp[e]at h
 |some o=>exact(Ad.1 e).1
theorem vG {w:World} {b o:Nat} {v:Value} (h:w.cell? ⟨b,o,none⟩=some v):¬ly w b:=by
 rintro⟨es,clk,e⟩;unfold World.cell? at h;simp[e]at h
theorem eg {w w':World} {b o:Nat} {v:Value} (h:w.cell? ⟨b,o,none⟩=some v) (e:w'.heap[b]? =w.heap[b]?):w'.cell? ⟨b,o,none⟩=some v:=by
 unfold World.cell? at h⊢;rw[e];exact h
theorem eS.cells {S:Nat->Prop} {w w':World} (h:eS S w w') (hS:∀k,S k->ly w k):jJ w w':=by
 intro b arr e fz hb;rw[h.block b (Ad.1 hb).1 ?_]
 . exact hb
 . intro hs;obtain⟨es,clk,hm⟩:=hS b hs;rw[hb]at hm;cases hm
theorem ep {w w':World} (h:Below w.heap.size w w'):jJ w w':=fun b arr e fz hb=>by
 rw[h.block b (Ad.1 hb).1];exact hb
section
variable {w w':World} {n b bk ba bd bs bv:Nat} {G:bD}
theorem cW.maps (h:cW w n b bk ba bd bs bv G):∀k,dW bk ba bd bv G k->ly w k:=by
 intro k hk;unfold dW at hk;simp only[Ak,Av]at hk;rcases hk with rfl|rfl|rfl|rfl|⟨x,hx,rfl⟩
 . exact Go.Gm.aC.isMap h.ir
 . exact Go.Gm.aC.isMap h.ma
 . exact Go.Gm.aC.isMap h.md
 . exact Go.Gm.aC.isMap h.mv
 . exact Go.Gm.aC.isMap (h.mi x hx)
theorem cW.aW (h:cW w n b bk ba bd bs bv G) (hc:jJ w w') (hm:∀k,dW bk ba bd bv G k->w'.heap[k]? =w.heap[k]?):cW w' n b bk ba bd bs bv G:=by
 have cc:∀{b o:Nat} {v:Value},w.cell? ⟨b,o,none⟩=some v->w'.cell? ⟨b,o,none⟩=some v:=by
  intro b o v hv;refine eg hv ?_;unfold World.cell? at hv
  cases e:w.heap[b]? with
  |none=>simp[e]at hv
  |some q=>
   cases q with
   |cells arr t fz=>exact hc _ _ _ _ e
   |_=>simp[e]at hv
 refine⟨cc h.c0,cc h.c1,cc h.c2,cc h.c3,cc h.cv,h.ir.same (hm _ ?_),h.ma.same (hm _ ?_),h.md.same (hm _ ?_),h.mv.same (hm _ ?_),fun x hx=>(h.mi x hx).same (hm _ ?_),h.nd,h.low,fun x hx=>(h.ev x hx).cells hc⟩
 all_goals (unfold dW;simp)
 exact .inr (.inr (.inr (.inr ⟨x.1,x.2.2,hx⟩)))
theorem cW.below (h:cW w n b bk ba bd bs bv G) (hb:Below w.heap.size w w'):cW w' n b bk ba bd bs bv G:=
 h.aW (ep hb) fun k hk=>by
  obtain⟨es,clk,hm⟩:=h.maps k hk;exact hb.block k (Ad.1 hm).1
theorem Jm {j:Nat} {o:Obj} (hj:ly w j):jJ w (World.bc w j o):=by
 intro b arr e fz hb;obtain⟨es,clk,hm⟩:=hj;rw[mo hm,Aj (fun e=>by subst e;rw[hb]at hm;cases hm)];exact hb
theorem cW.mC (h:cW w n b bk ba bd bs bv G) {j:Nat} (hj:dW bk ba bd bv G j) {o:Obj} {G':bD}
  (hk:aC (World.bc w j o) bk bT qv G'.kept) (ha:aC (World.bc w j o) ba dw oE G'.alive) (hd:aC (World.bc w j o) bd bT cN G'.dead) (hv:aC (World.bc w j o) bv eH cN G'.vec)
  (hi:∀x∈G'.alive,aC (World.bc w j o) x.2.1 bT cN x.2.2) (hnd:(bk::ba::bd::bv::G'.alive.map (·.2.1)).Nodup) (hlow:∀x∈G'.alive,n<=x.2.1) (hev:∀x∈G'.kept,iP w x.2.1 x.2.2):cW (World.bc w j o) n b bk ba bd bs bv G':=by
 have hc:=Jm (o:=o) (h.maps j hj);have cc:∀{b o':Nat} {v:Value},w.cell? ⟨b,o',none⟩=some v->(World.bc w j o).cell? ⟨b,o',none⟩=some v:=by
  intro b o' v hcell;refine eg hcell ?_;obtain⟨es,clk,hm⟩:=h.maps j hj;rw[mo hm,Aj (fun e:b=j=>vG hcell (by rw[e];exact⟨es,clk,hm⟩))]
 refine⟨cc h.c0,cc h.c1,cc h.c2,cc h.c3,cc h.cv,hk,ha,hd,hv,hi,hnd,fun k hk'=>?_,fun x hx=>(hev x hx).cells hc⟩;simp only[Ak,Av]at hk';rcases hk' with rfl|rfl|rfl|rfl|rfl|rfl|⟨x,hx,rfl⟩
 all_goals first|exact hlow x hx|(refine h.low _ ?_;simp)
theorem cW.ne (h:cW w n b bk ba bd bs bv G):bk≠ba/\bk≠bd/\bk≠bv/\ba≠bd/\ba≠bv/\bd≠bv:=by
 have:=h.nd;simp only[B7,Ak,not_or]at this;exact⟨this.1.1,this.1.2.1,this.1.2.2.1,this.2.1.1,this.2.1.2.1,this.2.2.1.1⟩
theorem cW.ru (h:cW w n b bk ba bd bs bv G) {x:aA×(Nat×DL)} (hx:x∈G.alive):x.2.1≠bk/\x.2.1≠ba/\x.2.1≠bd/\x.2.1≠bv:=by
 have:=h.nd;simp only[B7,Ak,not_or,Av,not_exists,not_and]at this;exact⟨this.1.2.2.2 x hx,this.2.1.2.2 x hx,this.2.2.1.2 x hx,this.2.2.2.1 x hx⟩
theorem gm {j i:Nat} {o:Obj} (h:ly w j) (hne:i≠j):(World.bc w j o).heap[i]? =w.heap[i]? :=by
 obtain⟨es,clk,hm⟩:=h;rw[mo hm,Aj hne]
end
end
theorem Ql (w:World):Calls Tryz.prog 64 #[] w fun e w'=>e= .returned (.pointer (some ⟨w.heap.size+1,0,none⟩))/\w'=(w.alloc (.map #[] 0)).alloc (.cells #[.map (some w.heap.size)] 149):=by
 have hmm:= @run_makeMap Tryz.prog;go_enter Tryz.func64,Tryz.ntmps64
 go_wp2;go_ret;exact⟨by simp,rfl⟩
theorem mn (w:World) (o:Obj) (i:Nat):(w.alloc o).heap[i]? =if i=w.heap.size then some o else w.heap[i]? :=by
 show(w.heap.push o)[i]? =_
 rw[Array.getElem?_push]
theorem uD (w:World) (arr:Array Value) (e:TypeId) (fz:Nat×Nat) (i o:Nat):(w.alloc (.cells arr e fz)).cell? ⟨i,o,none⟩=if i=w.heap.size then arr[o]? else w.cell? ⟨i,o,none⟩:=by
 unfold World.cell?
 simp only[mn];by_cases h:i=w.heap.size
 . simp[h]
 . simp[h]
theorem rF {K V:Type} [DecidableEq K] {w:World} {b:Nat} {enc:K->Value} {encV:V->Value} (h:w.heap[b]? =some (.map #[] 0)):aC w b enc encV ([]:List (K×V)):=
 ⟨⟨#[],0,h,by simp[gR],by simp,by simp⟩,by simp⟩
theorem HP (w:World):Calls Tryz.prog 14 #[] w fun e w'=>∃b bk ba bd bs bv,e= .returned (.pointer (some ⟨b,0,none⟩))/\cW w' w.heap.size b bk ba bd bs bv ⟨[],[],[],[]⟩/\Below w.heap.size w w':=by
 have hmm:= @run_makeMap Tryz.prog;go_enter Tryz.func14,Tryz.ntmps14
 go_wp2_with (go_at_call 64;refine(Ql _).mono ?_;rintro e w1 ⟨rfl,rfl⟩)
 go_ret;refine⟨w.heap.size+5,w.heap.size,w.heap.size+1,w.heap.size+2,w.heap.size+4,w.heap.size+3,rfl,?_,?_⟩
 . refine⟨by simp[uD],by simp[uD],by simp[uD],by simp[uD],by simp[uD],rF (by simp only[mn,World.size_alloc];repeat (first|rfl|rw[Aj (by omega)]);try simp;try omega),rF (by simp only[mn,World.size_alloc];repeat (first|rfl|rw[Aj (by omega)]);try simp;try omega),rF (by simp only[mn,World.size_alloc];repeat (first|rfl|rw[Aj (by omega)]);try simp;try omega),rF (by simp only[mn,World.size_alloc];repeat (first|rfl|rw[Aj (by omega)]);try simp;try omega),fun x hx=>(by cases hx),by simp,by simp,fun x hx=>(by cases hx)⟩
 . refine Below.alloc (Below.alloc (Below.alloc (Below.alloc (Below.alloc (Below.alloc (Below.refl _ _) ?_ _) ?_ _) ?_ _) ?_ _) ?_ _) ?_ _
   all_goals (simp;try omega)
theorem Tryz.room {w:World} {n b bk ba bd bs bv:Nat} {G:bD} (h:cW w n b bk ba bd bs bv G) (hl:G.kept.length<=100000):Calls Tryz.prog 68 #[.pointer (some ⟨b,0,none⟩), .int .i64 1] w fun e w'=>e= .returned (.bool (decide (1<=2048 - (G.kept.length:Int))))/\w'=w:=by
 obtain⟨es,clk,hb,hsz⟩:=h.ir.len;have c0:=h.c0;have hlen:(Builtin.len_ #[99] 3 #[.map (some bk)]).run Tryz.prog w= .ok (.int .i64 G.kept.length) w:=by
  rw[run_len_map w 99 3 bk es clk (by simp[Program.mapKeyOf,Program.mapElemOf,Tryz.underlying99]) hb,hsz];rfl
 have hwr:wrap64 (2048 - (G.kept.length:Int))=2048 - (G.kept.length:Int):=by
  exact IntWalk.wrap64_in _ (by omega)
 clear h hb;go_enter Tryz.func68,Tryz.ntmps68
 go_wp2;go_ret;exact⟨rfl,rfl⟩
theorem Py {w:World} {bd:Nat} {L:DL} (hm:aC w bd bT cN L) (d:ar):(Instr.lookup 101 (.map (some bd)) (bT d) true).run Tryz.prog w= .ok (.tuple #[.int .i64 ((aE L d).getD 0), .bool (aE L d).isSome]) w:=by
 rw[hm.lookup iF Tryz.underlying101 (u4 w) d true]
 cases aE L d<;>rfl
theorem Tryz.dead {w:World} {n b bk ba bd bs bv:Nat} {G:bD} (h:cW w n b bk ba bd bs bv G) (d:ar):Calls Tryz.prog 71 #[.pointer (some ⟨b,0,none⟩),bT d] w fun e w'=>e= .returned (.bool (aE G.dead d).isSome)/\Below w.heap.size w w':=by
 have hb:Below w.heap.size w (w.alloc (.cells #[.int .i64 d.dev, .int .i64 d.inc, .int .i64 d.seq] 35)).drew:=((Below.refl w.heap.size w).alloc (Ai _) _).drew;have h1:=h.below hb;have hlk:=Py h1.md d;have c2:=h1.c2;unfold bT at hlk⊢;clear h h1;go_enter Tryz.func71,Tryz.ntmps71
 go_wp2_with fail
 go_region
 go_wp2;go_ret;exact⟨rfl,hb⟩
section
section
variable {K V:Type} [DecidableEq K]
theorem xm {A:List (K×V)} {k:K} {v:V} {x:K×V} (h:x∈cB A k v):x=(k,v)\/(x∈A/\x.1≠k):=by
 unfold cB at h;split at h
 . obtain⟨y,hy,he⟩:=Av.1 h;split at he
   . exact .inl he.symm
   . rename_i hne;subst he;exact .inr ⟨hy,fun e=>hne e.symm⟩
 . rename_i hk;rcases A7.1 h with h|h
   . exact .inr ⟨h,fun e=>hk (Av.2 ⟨x,h,e⟩)⟩
   . exact .inl (BE.1 h)
theorem uB {β:Type} {A:List (K×V)} {k:K} {u v:V} {f:K×V->β} (hn:(A.map (·.1)).Nodup) (h:aE A k=some u) (hf:f (k,v)=f (k,u)):(cB A k v).map f=A.map f:=by
 have hm:=mg h;unfold cB;rw[An (Av.2 ⟨_,hm,rfl⟩),Dy];refine Db fun x hx=>?_
 simp only[Function.comp];split
 . rename_i e;obtain⟨a,b⟩:=x;simp only at e;subst e;rw[CR hn hx hm];exact hf
 . rfl
theorem Iz {β:Type} {A:List (K×V)} {k:K} {v:V} {f:K×V->β} (h:aE A k=none):(cB A k v).map f=A.map f++[f (k,v)]:=by
 unfold cB;rw[Aj (bN.1 h),AL];rfl
theorem XT (A:List (K×V)) (k:K) (u v:V):cB (cB A k u) k v=cB A k v:=by
 by_cases h:k∈A.map (·.1)
 . have h1:cB A k u=A.map (fun x=>if k=x.1 then(k,u)else x):=An h;have h2:cB A k v=A.map (fun x=>if k=x.1 then(k,v)else x):=An h;have h3:k∈(cB A k u).map (·.1):=by rw[mem_keys,iK];simp
   have h4:cB (cB A k u) k v=(cB A k u).map (fun x=>if k=x.1 then(k,v)else x):=An h3;rw[h4,h1,h2,Dy];refine Db fun x _=>?_
   simp only[Function.comp];by_cases e:k=x.1<;>simp[e]
 . have h1:cB A k u=A++[(k,u)]:=Aj h;have h2:cB A k v=A++[(k,v)]:=Aj h;have h3:k∈(cB A k u).map (·.1):=by rw[mem_keys,iK];simp
   have h4:cB (cB A k u) k v=(cB A k u).map (fun x=>if k=x.1 then(k,v)else x):=An h3;rw[h4,h1,h2,AL];congr 1
   . conv=>rhs;rw[<-Fm A]
     refine Db fun x hx=>?_
     rw[Aj (fun e=>h (Av.2 ⟨x,hx,e.symm⟩))];rfl
   . simp
end
theorem eS.more {S T:Nat->Prop} {a b c:World} (h:eS S a b) (k:eS T b c) (hT:∀i,i<a.heap.size->T i->S i):eS S a c:=
 ⟨k.os.trans h.os,k.tape.trans h.tape,k.output.trans h.output,Aq h.size k.size,fun i hi hS=>(k.block i (AP hi h.size) fun ht=>hS (hT i hi ht)).trans (h.block i hi hS)⟩
section
variable {w w':World} {n b bk ba bd bs bv:Nat} {G:bD}
theorem cW.iE (h:cW w n b bk ba bd bs bv G) {k:aA} {j:Nat} {L L':DL} (hj:aE G.alive k=some (j,L)) {o:Obj} (hm:aC (World.bc w j o) j bT cN L'):cW (World.bc w j o) n b bk ba bd bs bv {G with alive:=cB G.alive k (j,L')}:=by
 have hjm:=mg hj;have hmap:=aC.isMap (h.mi _ hjm);obtain⟨n1,n2,n3,n4⟩:=h.ru hjm;have hblk:(cB G.alive k (j,L')).map (·.2.1)=G.alive.map (·.2.1):=uB h.ma.nd hj rfl;refine h.mC (j:=j) (by unfold dW;simp only[Ak,Av];exact .inr (.inr (.inr (.inr ⟨_,hjm,rfl⟩)))) (h.ir.same (gm hmap n1.symm)) ((h.ma.same (gm hmap n2.symm)).repr (uB h.ma.nd hj rfl) (uB h.ma.nd hj rfl)) (h.md.same (gm hmap n3.symm)) (h.mv.same (gm hmap n4.symm)) (fun x hx=>?_) ?_ (fun x hx=>?_) h.ev
 . rcases xm hx with rfl|⟨hx,hk⟩
   . exact hm
   . refine(h.mi x hx).same (gm hmap fun e=>?_);have hnd:=h.nd;simp only[B7]at hnd;have hnd:=hnd.2.2.2.2;have:∀{A:List (aA×(Nat×DL))},(A.map (·.2.1)).Nodup->x∈A->(k,(j,L))∈A->x=(k,(j,L)):=by
      intro A;induction A with
      |nil=>intro _ h;cases h
      |cons y A ih=>
       intro hn h1 h2;rw[A4,B7]at hn;rcases Ak.1 h1 with h1|h1<;>rcases Ak.1 h2 with h2|h2
       . rw[h1,h2]
       . exact absurd (Av.2 ⟨_,h2,by rw[<-h1];exact e.symm⟩) hn.1
       . exact absurd (Av.2 ⟨_,h1,by rw[<-h2];exact e⟩) hn.1
       . exact ih hn.2 h1 h2
     have:=this hnd hx hjm;rw[this]at hk;exact hk rfl
 . show(bk::ba::bd::bv::(cB G.alive k (j,L')).map (·.2.1)).Nodup
   rw[hblk];exact h.nd
 . have:x.2.1∈(cB G.alive k (j,L')).map (·.2.1):=Av.2 ⟨x,hx,rfl⟩;rw[hblk]at this;refine h.low _ ?_;simp only[Ak];exact .inr (.inr (.inr (.inr (.inr (.inr this)))))
theorem cW.kh (h:cW w n b bk ba bd bs bv G) {k:aA} {j:Nat} (hn:aE G.alive k=none) {o:Obj} (hj:aC w j bT cN ([]:DL)) (hjn:¬dW bk ba bd bv G j) (hlow:n<=j) (hm:aC (World.bc w ba o) ba dw oE (cB G.alive k (j,[]))):
   cW (World.bc w ba o) n b bk ba bd bs bv {G with alive:=cB G.alive k (j,[])}:=by
 have hmap:=aC.isMap h.ma;obtain⟨n1,n2,n3,n4,n5,n6⟩:=h.ne;have hblk:(cB G.alive k (j,[])).map (·.2.1)=G.alive.map (·.2.1)++[j]:=Iz hn;unfold dW at hjn;simp only[Ak,not_or]at hjn;refine h.mC (j:=ba) (by unfold dW;simp) (h.ir.same (gm hmap n1)) hm (h.md.same (gm hmap n4.symm)) (h.mv.same (gm hmap n5.symm)) (fun x hx=>?_) ?_ (fun x hx=>?_) h.ev
 . rcases xm hx with rfl|⟨hx,hk⟩
   . exact hj.same (gm hmap hjn.2.1)
   . exact(h.mi x hx).same (gm hmap (h.ru hx).2.1)
 . show(bk::ba::bd::bv::(cB G.alive k (j,[])).map (·.2.1)).Nodup
   rw[hblk];have h1:(bk::ba::bd::bv::(G.alive.map (·.2.1)++[j]))=(bk::ba::bd::bv::G.alive.map (·.2.1))++[j]:=by simp
   rw[h1,EG];refine⟨h.nd,by simp,fun a ha c hc=>?_⟩;rw[BE]at hc;subst hc;rintro rfl;simp only[Ak]at ha;rcases ha with ha|ha|ha|ha|ha
   . exact hjn.1 ha
   . exact hjn.2.1 ha
   . exact hjn.2.2.1 ha
   . exact hjn.2.2.2.1 ha
   . exact hjn.2.2.2.2 ha
 . rcases xm hx with rfl|⟨hx,hk⟩
   . exact hlow
   . refine h.low _ ?_;simp only[Ak];exact .inr (.inr (.inr (.inr (.inr (.inr (Av.2 ⟨x,hx,rfl⟩))))))
theorem cW.oI (h:cW w n b bk ba bd bs bv G) {D:DL} {o:Obj} (hm:aC (World.bc w bd o) bd bT cN D):cW (World.bc w bd o) n b bk ba bd bs bv {G with dead:=D}:=by
 have hmap:=aC.isMap h.md;obtain⟨n1,n2,n3,n4,n5,n6⟩:=h.ne;exact h.mC (j:=bd) (by unfold dW;simp) (h.ir.same (gm hmap n2)) (h.ma.same (gm hmap n4)) hm (h.mv.same (gm hmap n6.symm)) (fun x hx=>(h.mi x hx).same (gm hmap (h.ru hx).2.2.1)) h.nd (fun x hx=>h.low _ (by simp only[Ak];exact .inr (.inr (.inr (.inr (.inr (.inr (Av.2 ⟨x,hx,rfl⟩)))))))) h.ev
theorem cW.oJ (h:cW w n b bk ba bd bs bv G) {d:ar} {x:Value×ae} {o:Obj} (hx:iP w x.1 x.2) (hm:aC (World.bc w bk o) bk bT qv (cB G.kept d x)):cW (World.bc w bk o) n b bk ba bd bs bv {G with kept:=cB G.kept d x}:=by
 have hmap:=aC.isMap h.ir;obtain⟨n1,n2,n3,n4,n5,n6⟩:=h.ne;refine h.mC (j:=bk) (by unfold dW;simp) hm (h.ma.same (gm hmap n1.symm)) (h.md.same (gm hmap n2.symm)) (h.mv.same (gm hmap n3.symm)) (fun x hx=>(h.mi x hx).same (gm hmap (h.ru hx).1)) h.nd (fun x hx=>h.low _ (by simp only[Ak];exact .inr (.inr (.inr (.inr (.inr (.inr (Av.2 ⟨x,hx,rfl⟩)))))))) (fun y hy=>?_);rcases xm hy with rfl|⟨hy,_⟩
 . exact hx
 . exact h.ev y hy
theorem cW.jW (h:cW w n b bk ba bd bs bv G) {k:aA} {o:Obj} (hm:aC (World.bc w ba o) ba dw oE (dz G.alive k)):cW (World.bc w ba o) n b bk ba bd bs bv {G with alive:=dz G.alive k}:=by
 have hmap:=aC.isMap h.ma;obtain⟨n1,n2,n3,n4,n5,n6⟩:=h.ne;have hsub:∀x∈dz G.alive k,x∈G.alive:=fun x hx=>(AE.1 hx).1
 refine h.mC (j:=ba) (by unfold dW;simp) (h.ir.same (gm hmap n1)) hm (h.md.same (gm hmap n4.symm)) (h.mv.same (gm hmap n5.symm)) (fun x hx=>(h.mi x (hsub x hx)).same (gm hmap (h.ru (hsub x hx)).2.1)) ?_ (fun x hx=>h.low _ (by simp only[Ak];exact .inr (.inr (.inr (.inr (.inr (.inr (Av.2 ⟨x,hsub x hx,rfl⟩)))))))) h.ev;refine Ed ?_ h.nd;exact((((List.filter_sublist.map _).cons₂ _).cons₂ _).cons₂ _).cons₂ _
end
theorem jF {w:World} {ba:Nat} {A:List (aA×(Nat×DL))} (hm:aC w ba dw oE A) (k:aA):(Instr.lookup 100 (.map (some ba)) (dw k) false).run Tryz.prog w= .ok (.map ((aE A k).map (·.1))) w:=by
 rw[hm.lookup yy Tryz.underlying100 (z:= .map none) (by kernel_rfl) k false]
 cases aE A k<;>rfl
theorem pZ {w:World} {j b o:Nat} {x:Obj} {v:Value} (hj:ly w j) (h:w.cell? ⟨b,o,none⟩=some v):(World.bc w j x).cell? ⟨b,o,none⟩=some v:=
 eg h (gm hj fun e=>vG h (by rw[e];exact hj))
theorem zO (e:ae) (v:Value):ic e v= .agg #[.int .i64 e.dot.dev, .int .i64 e.dot.inc, .int .i64 e.dot.seq, .int .i64 e.bu.wall, .int .i64 e.bu.count, .int .i64 e.bu.dev, .int .i64 e.kind,da e.key.name,da e.key.domain,da e.key.path,
 da e.ab.value, .bool e.ab.aF, .bool e.ab.aV, .bool e.ab.aG, .bool e.ab.persistent, .int .i64 e.ab.aP, .int .i64 e.ab.aq, .int .i64 e.ab.access,v]:=rfl
theorem OK (b:Nat) (w:World):(binOp BinOp.eql 101 (.map (some b)) (.map none)).run Tryz.prog w= .ok (.bool false) w:=by kernel_rfl
theorem Oe {w:World} {n b bk ba bd bs bv:Nat} {G:bD} (h:cW w n b bk ba bd bs bv G) (e:ae) (v:Value) {j:Nat} {L:DL} (hj:aE G.alive e.key=some (j,L)):
   Calls Tryz.prog 72 #[.pointer (some ⟨b,0,none⟩),ic e v] w fun e' w'=>e'= .returned (.tuple #[])/\eS (dW bk ba bd bv G) w w'/\cW w' n b bk ba bd bs bv {G with alive:=cB G.alive e.key (j,cB L e.dot 1)}:=by
 rw[zO];obtain⟨W,hW⟩:∃W,(w.alloc (.cells #[.int .i64 e.dot.dev, .int .i64 e.dot.inc, .int .i64 e.dot.seq, .int .i64 e.bu.wall, .int .i64 e.bu.count, .int .i64 e.bu.dev, .int .i64 e.kind,da e.key.name,da e.key.domain,da e.key.path,
   da e.ab.value, .bool e.ab.aF, .bool e.ab.aV, .bool e.ab.aG, .bool e.ab.persistent, .int .i64 e.ab.aP, .int .i64 e.ab.aq, .int .i64 e.ab.access,v] 42))=W:=⟨_,rfl⟩
 have hb:Below w.heap.size w W:=by rw[<-hW];exact(Below.refl w.heap.size w).alloc (Ai _) _
 have h0:=h.below hb;go_enter Tryz.func72,Tryz.ntmps72
 go_wp2_with fail
 have k7:W.cell? ⟨w.heap.size,7,none⟩=some (da e.key.name):=by rw[<-hW];simp
 have k8:W.cell? ⟨w.heap.size,8,none⟩=some (da e.key.domain):=by rw[<-hW];simp
 have k9:W.cell? ⟨w.heap.size,9,none⟩=some (da e.key.path):=by rw[<-hW];simp
 have d0:W.cell? ⟨w.heap.size,0,none⟩=some (.int .i64 e.dot.dev):=by rw[<-hW];simp
 have d1:W.cell? ⟨w.heap.size,1,none⟩=some (.int .i64 e.dot.inc):=by rw[<-hW];simp
 have d2:W.cell? ⟨w.heap.size,2,none⟩=some (.int .i64 e.dot.seq):=by rw[<-hW];simp
 have h1:=h0.below (Below.refl W.heap.size W).drew;have c1:=h0.c1;have hlk:=jF h1.ma e.key;rw[hj]at hlk;have hjm:(e.key,(j,L))∈G.alive:=mg hj;have h2:=h1.below (Below.refl W.drew.heap.size W.drew).drew;obtain⟨es,clk,hu,hmu⟩:=(h2.mi _ hjm).update iF Tryz.underlying101 e.dot 1;have hlk2:=jF h2.ma e.key;rw[hj]at hlk2;have hnil:=fun w=>OK j w
 rw[show dw e.key= .agg #[da e.key.name,da e.key.domain,da e.key.path]from rfl]at hlk hlk2;unfold bT cN at hu;clear h0 h hW;go_region
 go_wp2_with fail
 go_region
 go_wp2;go_end0
 refine⟨rfl,?_,h2.iE hj hmu⟩;refine(lK (hb.drew.drew)).more (T:=(· =j)) ⟨rfl,rfl,rfl,by simp[World.bc],fun k _ hk=>?_⟩ ?_
 . exact gm (aC.isMap (h2.mi _ hjm)) hk
 . rintro i _ rfl;unfold dW;simp only[Ak,Av];exact .inr (.inr (.inr (.inr ⟨_,hjm,rfl⟩)))
theorem Od {w:World} {n b bk ba bd bs bv:Nat} {G:bD} (h:cW w n b bk ba bd bs bv G) (hn:n<=w.heap.size) (e:ae) (v:Value) (hj:aE G.alive e.key=none):
  Calls Tryz.prog 72 #[.pointer (some ⟨b,0,none⟩),ic e v] w fun e' w'=>e'= .returned (.tuple #[])/\eS (dW bk ba bd bv G) w w'/\ ∃j,w.heap.size<=j/\cW w' n b bk ba bd bs bv {G with alive:=cB G.alive e.key (j,[(e.dot,1)])}:=by
 rw[zO];obtain⟨W,hW⟩:∃W,(w.alloc (.cells #[.int .i64 e.dot.dev, .int .i64 e.dot.inc, .int .i64 e.dot.seq, .int .i64 e.bu.wall, .int .i64 e.bu.count, .int .i64 e.bu.dev, .int .i64 e.kind,da e.key.name,da e.key.domain,da e.key.path,
  da e.ab.value, .bool e.ab.aF, .bool e.ab.aV, .bool e.ab.aG, .bool e.ab.persistent, .int .i64 e.ab.aP, .int .i64 e.ab.aq, .int .i64 e.ab.access,v] 42))=W:=⟨_,rfl⟩
 have hb:Below w.heap.size w W:=by rw[<-hW];exact(Below.refl w.heap.size w).alloc (Ai _) _
 have h0:=h.below hb;have hmm:= @run_makeMap Tryz.prog;go_enter Tryz.func72,Tryz.ntmps72
 go_wp2_with fail
 have k7:W.cell? ⟨w.heap.size,7,none⟩=some (da e.key.name):=by rw[<-hW];simp
 have k8:W.cell? ⟨w.heap.size,8,none⟩=some (da e.key.domain):=by rw[<-hW];simp
 have k9:W.cell? ⟨w.heap.size,9,none⟩=some (da e.key.path):=by rw[<-hW];simp
 have d0:W.cell? ⟨w.heap.size,0,none⟩=some (.int .i64 e.dot.dev):=by rw[<-hW];simp
 have d1:W.cell? ⟨w.heap.size,1,none⟩=some (.int .i64 e.dot.inc):=by rw[<-hW];simp
 have d2:W.cell? ⟨w.heap.size,2,none⟩=some (.int .i64 e.dot.seq):=by rw[<-hW];simp
 have hsz:W.heap.size=w.heap.size+1:=by rw[<-hW];simp
 have h1:=h0.below (Below.refl W.heap.size W).drew;have c1:=h0.c1;have hlk:=jF h1.ma e.key;rw[hj]at hlk;have hnew:Below W.heap.size W (W.alloc (.map #[] 0)).drew.drew:=((Below.refl W.heap.size W).alloc (Ai _) _).drew.drew;have h2:=h0.below hnew;have hjn:¬dW bk ba bd bv G W.heap.size:=fun hm=>by
  obtain⟨es,clk,hx⟩:=h0.maps _ hm;have:=(Ad.1 hx).1;omega
 have hfr:aC (W.alloc (.map #[] 0)).drew.drew W.heap.size bT cN ([]:DL):=rF (by show(W.alloc (.map #[] 0)).heap[W.heap.size]? =_;rw[mn];simp);obtain⟨es,clk,hu,hmu⟩:=h2.ma.update yy Tryz.underlying100 e.key ((W.heap.size,[]):Nat×DL);have h3:=h2.kh hj hfr hjn (by omega) hmu;have up:∀{o:Nat} {x:Value},W.cell? ⟨w.heap.size,o,none⟩=some x->(W.alloc (.map #[] 0)).cell? ⟨w.heap.size,o,none⟩=some x:=fun hx=>(((Below.refl W.heap.size W).alloc (Ai _) _).cell (by rw[hsz];exact DZ _)).trans hx
 have k7':=up k7;have k8':=up k8;have k9':=up k9;have d0':=up d0;have d1':=up d1;have d2':=up d2;have c1':(W.alloc (.map #[] 0)).cell? ⟨b,1,none⟩=some (.map (some ba)):=h2.c1;rw[hsz]at hu;clear up h0 h hW;rw[show dw e.key= .agg #[da e.key.name,da e.key.domain,da e.key.path]from rfl]at hlk hu;rw[show oE (w.heap.size+1,[])= .map (some (w.heap.size+1))from rfl]at hu;have hnil:∀w,(binOp BinOp.eql 101 (.map none) (.map none)).run Tryz.prog w= .ok (.bool true) w:=fun w=>by kernel_rfl
 go_region
 go_wp2_with fail
 have hmb:ly (W.alloc (.map #[] 0)).drew.drew ba:=aC.isMap h2.ma;obtain⟨W3,hW3⟩:∃W3,World.bc (W.alloc (.map #[] 0)).drew.drew ba (.map es clk)=W3:=⟨_,rfl⟩;have up3:∀{o:Nat} {x:Value},(W.alloc (.map #[] 0)).cell? ⟨w.heap.size,o,none⟩=some x->W3.cell? ⟨w.heap.size,o,none⟩=some x:=fun hx=>by rw[<-hW3];exact pZ hmb hx
 have k7'':=up3 k7';have k8'':=up3 k8';have k9'':=up3 k9';have d0'':=up3 d0';have d1'':=up3 d1';have d2'':=up3 d2';have hbut:eS (dW bk ba bd bv G) w W3:=by
  refine(lK (hb.trans (hnew.mono hb.size))).more (T:=(· =ba)) ⟨by rw[<-hW3];rfl,by rw[<-hW3];rfl,by rw[<-hW3];rfl,by rw[<-hW3];simp[World.bc],fun k _ hk=>by rw[<-hW3];exact gm hmb hk⟩ ?_;rintro i _ rfl;unfold dW;simp
 rw[hW3]at h3 hu;have c1'':=h3.c1;have h4:=h3.below (Below.refl W3.heap.size W3).drew;have hget:aE (cB G.alive e.key (W.heap.size,[])) e.key=some (W.heap.size,[]):=by rw[iK];simp
 have hlk3:=jF h4.ma e.key;rw[hget,show dw e.key= .agg #[da e.key.name,da e.key.domain,da e.key.path]from rfl]at hlk3;obtain⟨es2,clk2,hu2,hmu2⟩:=(h4.mi _ (mg hget)).update iF Tryz.underlying101 e.dot 1;rw[show bT e.dot= .agg #[.int .i64 e.dot.dev, .int .i64 e.dot.inc, .int .i64 e.dot.seq]from rfl,show cN 1= .int .i64 1 from rfl]at hu2;have hj2:ly W3 W.heap.size:=aC.isMap (h3.mi _ (mg hget));have h5:=h4.iE hget hmu2;rw[XT]at h5;simp only[hsz,Bh]at hlk3 hu2;clear h1 h2 h3 h4 hfr hmu hmu2 hget hmb;go_region
 go_wp2_with fail
 go_region
 go_wp2;go_end0
 rw[hsz]at h5 hj2;refine⟨rfl,hbut.more (T:=(· =w.heap.size+1)) ⟨rfl,rfl,rfl,by simp[World.bc],fun k _ hk=>gm (w:=W3.drew) hj2 hk⟩ (fun i hi e=>by subst e;omega),_,Fk _,h5⟩
end
end Go.Proofs
namespace Go.Gm
open Go Go.RowKit Go.Maps Go.Proofs Go.ChangeMaps
section
variable {P:Program} {K V:Type} [DecidableEq K]
structure cM (w:World) (r b:Nat) (enc:K->Value) (encV:V->Value) (L ss left:List (K×V)):Prop where
 ex:∃es clk seen,w.heap[b]? =some (.map es clk)/\gR enc encV es.toList L/\(es.toList.map (·.born)).Pairwise (· < ·)/\(∀e∈es.toList,e.born<clk)/\w.heap[r]? =some (.mapIter (some b) clk seen clk)/\gR enc encV (leftOf es seen).toList left
 perm:(ss++left).Perm L
theorem QF:∀{l:List Nat},l.Pairwise (· < ·)->l.Nodup:=fun h=>h.imp fun h=>Nat.ne_of_lt h
theorem aC.range {w:World} {b:Nat} {enc:K->Value} {encV:V->Value} {L:List (K×V)} (h:aC w b enc encV L) {t T Te:TypeId} (ht:P.underlying t=some (.map T Te)):
  ∃w',(Instr.range t (.map (some b))).run P w= .ok (.pointer (some ⟨w.heap.size,0,none⟩)) w'/\cM w' w.heap.size b enc encV L [] L/\Below w.heap.size w w'/\w'.heap.size=w.heap.size+1:=by
 obtain⟨⟨es,clk,hb,hr,hs,hc⟩,_⟩:=h;have hlt:=(Ad.1 hb).1;refine⟨_,run_range_map w t T Te b es clk ht hb,⟨⟨es,clk,#[],(Below.heap_alloc w _ b hlt).trans hb,hr,hs,hc,by rw[mn,An rfl],?_⟩,by simp⟩,(Below.refl _ w).alloc (Ai _) _,by simp⟩;have:leftOf es #[]=es:=by simp[leftOf]
 rw[this];exact hr
theorem Mm {enc:K->Value} {encV:V->Value}:∀{es:List MapEntry} {L:List (K×V)},gR enc encV es L->∀e∈es,∃M1 x M2 es1 es2,L=M1++x::M2/\es=es1++e::es2/\gR enc encV es1 M1/\gR enc encV es2 M2/\e.key=enc x.1/\e.val=encV x.2
 |[],_,_,e,h=>by cases h
 |a::es,[],h,_,_=>by simp[gR]at h
 |a::es,y::L,h,e,he=>by
  simp only[gR,A4,B8,BP]at h;rcases Ak.1 he with rfl|he
  . exact⟨[],y,L,[],es,rfl,rfl,rfl,h.2,h.1.1,h.1.2⟩
  . obtain⟨M1,x,M2,es1,es2,h1,h2,h3,h4,h5⟩:=Mm (h.2:gR enc encV es L) e he;refine⟨y::M1,x,M2,a::es1,es2,by rw[h1];rfl,by rw[h2];rfl,?_,h4,h5⟩;simp only[gR,A4,B8,BP];exact⟨h.1,h3⟩
theorem cM.next {w:World} {r b:Nat} {enc:K->Value} {encV:V->Value} {L ss left:List (K×V)} (h:cM w r b enc encV L ss left) (ty:TypeId):
   (left=[]/\ss.Perm L/\(Instr.next (.pointer (some ⟨r,0,none⟩)) false ty).run P w= .ok (.tuple #[.bool false]) w)\/
   ∃ x left' w',(Instr.next (.pointer (some ⟨r,0,none⟩)) false ty).run P w= .ok (.tuple #[.bool true,enc x.1,encV x.2]) w'/\cM w' r b enc encV L (ss++[x]) left'/\left.length=left'.length+1/\eS (· =r) w w'/\w'.heap.size=w.heap.size/\
     (Instr.entry (.pointer (some ⟨r,0,none⟩))).run P w'= .ok (.tuple #[enc x.1,encV x.2]) w':=by
 obtain⟨⟨es,clk,seen,hb,hr,hs,hc,hi,hl⟩,hp⟩:=h;have hnd:=QF hs;rcases run_next_at (P:=P) w ty r b clk clk seen es clk hi hb hc (Ai _)with⟨h0,hrun⟩|⟨e,he,w1,hw1,hrun⟩
 . have:left=[]:=by
     have:=Ap List.length hl;simp only[A8,Array.length_toList,h0]at this;exact AQ.1 this.symm
   subst this;exact .inl ⟨rfl,by simpa using hp,hrun⟩
 . obtain⟨M1,x,M2,es1,es2,h1,h2,h3,h4,h5,h6⟩:=Mm hl e he;have hi1:w1.heap[r]? =some (.mapIter (some b) clk seen clk):=by rcases hw1 with rfl|rfl<;>exact hi
   have hb1:w1.heap[b]? =some (.map es clk):=by rcases hw1 with rfl|rfl<;>exact hb
   have hrlt:=(Ad.1 hi1).1;have hne:b≠r:=fun hh=>by rw[hh]at hb;rw[hb]at hi;cases hi
   have hget:∀k,(setBlock w1 r (.mapIter (some b) clk (seen.push e.born) clk)).heap[k]? =if k=r then some (.mapIter (some b) clk (seen.push e.born) clk)else w1.heap[k]? :=fun k=>by
     simp only[setBlock,B9];by_cases hk:r=k
     . subst hk;simp[hrlt]
     . rw[Aj hk,Aj (Ne.symm hk)]
   have hem:e∈es.toList:=by
     have:=he;unfold leftOf at this;simp only[D7,AE]at this;exact this.1
   refine .inr ⟨x,M1++M2,_,by rw[<-h5,<-h6];exact hrun,⟨⟨es,clk,seen.push e.born,by rw[hget,Aj hne];exact hb1,hr,hs,hc,by rw[hget,An rfl],?_⟩,?_⟩,by rw[h1];simp;omega,⟨?_,?_,?_,?_,fun k _ hk=>?_⟩,?_,by rw[<-h5,<-h6];exact run_entry_at _ r b clk seen es clk e (by rw[hget,An rfl]) (by rw[hget,Aj hne];exact hb1) hem hnd⟩
   . have hsub:((leftOf es seen).toList.map (·.born)).Nodup:=by
       unfold leftOf;rw[D7];exact hnd.sublist (List.filter_sublist.map _)
     have hcut:(leftOf es (seen.push e.born)).toList=(leftOf es seen).toList.filter fun y=> !(y.born==e.born):=by
       unfold leftOf;rw[D7,D7,DI];congr 1
       funext y
       rw[Array.contains_push];by_cases hh:y.born=e.born
       . simp[hh]
       . have h2:(y.born==e.born)=false:=by simpa using hh
         have h3:(e.born==y.born)=false:=by simpa using fun e=>hh e.symm
         simp only[h2,h3]
         cases seen.contains y.born<;>rfl
     rw[hcut,h2];rw[h2,AL,A4,EG]at hsub;obtain⟨n1,n2,n3⟩:=hsub;rw[B7]at n2;have f1:es1.filter (fun y=> !(y.born==e.born))=es1:=by
       rw[BG];intro y hy;have:=n3 y.born (Av.2 ⟨y,hy,rfl⟩) e.born Ar;simpa using this
     have f2:es2.filter (fun y=> !(y.born==e.born))=es2:=by
       rw[BG];intro y hy;have:y.born≠e.born:=fun hh=>n2.1 (Av.2 ⟨y,hy,hh⟩)
       simpa using this
     rw[DJ,Df,f1,f2];simp only[Em,BV,Ao,AK];unfold gR at h3 h4⊢;rw[AL,AL,h3,h4]
   . rw[h1]at hp;refine List.Perm.trans ?_ hp;rw[B0];refine List.Perm.append_left ss ?_;simp only[Dn];exact List.perm_middle.symm
   . rcases hw1 with rfl|rfl<;>rfl
   . rcases hw1 with rfl|rfl<;>rfl
   . rcases hw1 with rfl|rfl<;>rfl
   . rcases hw1 with rfl|rfl<;>simp[setBlock]
   . rw[hget,Aj hk];rcases hw1 with rfl|rfl<;>rfl
   . rcases hw1 with rfl|rfl<;>simp[setBlock]
section
variable (w:World) {ops:Array Oper} {rest:List Oper} {o:Oper} {a:Act} {Q:Exit->Act->World->Prop}
theorem Qy (hg:o.guard=none) (m:Operand) (t:TypeId) (hop:o.op=Op.range t m) {T Te:TypeId} (ht:P.underlying t=some (.map T Te)) (b:Nat) {enc:K->Value} {encV:V->Value} {L:List (K×V)}
  (hm:a.eval m= .map (some b)) (h:aC w b enc encV L)
  (hK:∀w',cM w' w.heap.size b enc encV L [] L->Below w.heap.size w w'->w'.heap.size=w.heap.size+1->wpList P ops Q rest (a.put o.dst (.pointer (some ⟨w.heap.size,0,none⟩))) w'):wpList P ops Q (o::rest) a w:=by
 refine wpList_plain hg fun K' hK'=>?_
 obtain⟨w',hrun,r1,r2,r3⟩:=h.range (P:=P) ht;unfold Oper.wp;simp[execOp,hop,hm,hrun,Result.andThen];exact hK' _ _ (hK w' r1 r2 r3)
theorem Ic (hg:o.guard=none) (it:Operand) (hop:o.op=Op.next it false) (r b:Nat) {enc:K->Value} {encV:V->Value} {L ss left:List (K×V)}
   (hit:a.eval it= .pointer (some ⟨r,0,none⟩)) (h:cM w r b enc encV L ss left)
   (hDone:left=[]->ss.Perm L->wpList P ops Q rest (a.put o.dst (.tuple #[.bool false])) w)
   (hMore:∀x left' w',cM w' r b enc encV L (ss++[x]) left'->left.length=left'.length+1->eS (· =r) w w'->w'.heap.size=w.heap.size->(Instr.entry (.pointer (some ⟨r,0,none⟩))).run P w'= .ok (.tuple #[enc x.1,encV x.2]) w'->
    wpList P ops Q rest (a.put o.dst (.tuple #[.bool true,enc x.1,encV x.2])) w'):wpList P ops Q (o::rest) a w:=by
 refine wpList_plain hg fun K' hK'=>?_
 unfold Oper.wp;rcases h.next (P:=P) o.type with⟨h0,hl,hrun⟩|⟨x,left',w',hrun,h1,h2,h3,h4,h5⟩
 . simp[execOp,hop,hit,hrun,Result.andThen];exact hK' _ _ (hDone h0 hl)
 . simp[execOp,hop,hit,hrun,Result.andThen];exact hK' _ _ (hMore x left' w' h1 h2 h3 h4 h5)
end
end
end Go.Gm
namespace Go.Proofs
open Go Go.Am Go.RowKit Go.Sy Go.Gm Go.Maps Go.Sort
section
section
variable {K V:Type} [DecidableEq K] {F:Fence} {n:Nat} {P:Program} (w:World) {ops:Array Oper} {rest:List Oper} {o:Oper} {a:Act} {Q:Exit->Act->World->Prop}
theorem Qu (hg:o.guard=none) (m:Operand) (t:TypeId) (hop:o.op=Op.range t m) {T Te:TypeId} (ht:P.underlying t=some (.map T Te)) (b:Nat) {enc:K->Value} {encV:V->Value} {L:List (K×V)}
  (hm:a.eval m= .map (some b)) (h:aC w b enc encV L)
  (hK:∀w',cM w' w.heap.size b enc encV L [] L->w.grownBy w' none->w'.heap.size=w.heap.size+1->wpListIn F n P ops Q rest (a.put o.dst (.pointer (some ⟨w.heap.size,0,none⟩))) w'):wpListIn F n P ops Q (o::rest) a w:=by
 refine wpListIn_plain hg fun K' hK'=>?_
 obtain⟨w',hrun,r1,r2,r3⟩:=h.range (P:=P) ht;unfold Oper.wpIn;refine⟨by simp[Oper.about,hop],?_⟩;rw[Oper.semAt_plain F _ _ (by rw[hop];intro c hc';cases hc')];simp[execOp,hop,hm,hrun,Result.andThen];exact hK' _ _ (hK w' r1 ⟨r2.os,r2.tape,r2.output,r2.size,fun i hi _=>r2.block i hi⟩ r3)
theorem Qt (hg:o.guard=none) (it:Operand) (hop:o.op=Op.next it false) (r b:Nat) {enc:K->Value} {encV:V->Value} {L ss left:List (K×V)}
   (hit:a.eval it= .pointer (some ⟨r,0,none⟩)) (h:cM w r b enc encV L ss left)
   (hDone:left=[]->ss.Perm L->wpListIn F n P ops Q rest (a.put o.dst (.tuple #[.bool false])) w)
   (hMore:∀x left' w',cM w' r b enc encV L (ss++[x]) left'->left.length=left'.length+1->w.grownBy w' (some r)->w'.heap.size=w.heap.size->(Instr.entry (.pointer (some ⟨r,0,none⟩))).run P w'= .ok (.tuple #[enc x.1,encV x.2]) w'->
    wpListIn F n P ops Q rest (a.put o.dst (.tuple #[.bool true,enc x.1,encV x.2])) w'):wpListIn F n P ops Q (o::rest) a w:=by
 refine wpListIn_plain hg fun K' hK'=>?_
 unfold Oper.wpIn;refine⟨by simp[Oper.about,hop],?_⟩;rw[Oper.semAt_plain F _ _ (by rw[hop];intro c hc';cases hc')];rcases h.next (P:=P) o.type with⟨h0,hl,hrun⟩|⟨x,left',w',hrun,h1,h2,h3,h4,h5⟩
 . simp[execOp,hop,hit,hrun,Result.andThen];exact hK' _ _ (hDone h0 hl)
 . simp[execOp,hop,hit,hrun,Result.andThen];exact hK' _ _ (hMore x left' w' h1 h2 ⟨h3.os,h3.tape,h3.output,h3.size,fun i hi hne=>h3.block i hi fun e=>hne (by rw[e])⟩ h4 h5)
end
theorem _root_.Go.Gm.cM.jk {K V:Type} [DecidableEq K] {w w':World} {r b:Nat} {enc:K->Value} {encV:V->Value} {L ss left:List (K×V)} (h:cM w r b enc encV L ss left) (hk:KeepsWalks w w'):cM w' r b enc encV L ss left:=by
 obtain⟨⟨es,clk,seen,hb,hr,hs,hc,hi,hl⟩,hp⟩:=h;exact⟨⟨es,clk,seen,hk.same _ _ hb rfl,hr,hs,hc,hk.same _ _ hi rfl,hl⟩,hp⟩
theorem _root_.Go.Gm.cM.isWalk {K V:Type} [DecidableEq K] {w:World} {r b:Nat} {enc:K->Value} {encV:V->Value} {L ss left:List (K×V)} (h:cM w r b enc encV L ss left):∃o:Obj,w.heap[r]? =some o/\o.isWalk=true:=by
 obtain⟨⟨es,clk,seen,hb,hr,hs,hc,hi,hl⟩,hp⟩:=h;exact⟨_,hi,rfl⟩
theorem _root_.Go.Gm.cM.left_eq {K V:Type} [DecidableEq K] {w:World} {r b:Nat} {enc:K->Value} {encV:V->Value} {L ss left:List (K×V)} (h:cM w r b enc encV L ss left):w.rangeLeft b r=left.length:=by
 obtain⟨⟨es,clk,seen,hb,hr,hs,hc,hi,hl⟩,hp⟩:=h;have:=Ap List.length hl;simp only[A8,Array.length_toList]at this;unfold World.rangeLeft;rw[hb,hi];exact this
theorem Pw (l Bm b n:Nat) (hn:1<=n) (L:DL) (J:List ar->World->Prop)
  (hY:∀pre x W,J pre W->pre.length<L.length->YieldAt Fence.wide (n - 1) Tryz.prog l #[bT x] W fun e W'=>e= .returned (.bool true)/\J (pre++[x]) W'/\KeepsWalks W W')
  (W:World) (hJ:AbidesFrom W.heap.size J) (hm:W.cell? ⟨Bm,0,none⟩=some (.map (some b))) (hown:aC W b bT cN L) (h0:J [] W):
  CallsIn Fence.wide n Tryz.prog 231 #[.func (.yield l) #[] #[], .pointer (some ⟨Bm,0,none⟩)] W fun e W'=>(∃v,e= .returned v)/\ ∃ss:List ar,ss.Perm (L.map (·.1))/\J ss W':=by
 refine callsIn_of_wp Tryz.func231 rfl trivial ?_ rfl;simp only[Tryz.ntmps231,BD,Az,AG,Nat.reduceAdd,Nat.reduceSub,Dw,Dv,DN,DB,BS,BO];gi_wp2_with (first
  |(gi_at_range;refine Qu _ rfl _ 101 rfl Tryz.underlying101 b rfl hown ?_;intro w0 hrg0 hg0 hs0)
  |gi_in)
 go_frame
 gi_loopw [3] (fun _ wr=>∃(ss left:DL),cM wr W.heap.size b bT cN L ss left/\ss.length+left.length=L.length/\J (ss.map (·.1)) wr/\W.heap.size<wr.heap.size)
  (fun _ wr=>wr.rangeLeft b W.heap.size)
 case atStart=>exact⟨[],L,hrg0,by simp,hJ [] W w0 none h0 hg0 (fun r e=>by cases e),by omega⟩
 case round=>
  obtain⟨ss,left,hrg,hcs,hJs,hbig⟩:=hrel;gi_wp2_with (first
    |(gi_at_next;refine Qt _ rfl _ rfl W.heap.size b rfl hrg ?_ ?_)
    |gi_in)
  . intro hl0 hperm;gi_wp2
    go_end0
    exact⟨⟨_,rfl⟩,_,hperm.map _,hJs⟩
  . intro d nn left' w2 hrg2 hlt hg2 hs2 hen;have hJ2:J (ss.map (·.1)) w2:=hJ _ wr w2 (some W.heap.size) hJs hg2 (fun r e=>by cases e;exact⟨Ai _,hrg.isWalk⟩);have hba:w2.grownBy (w2.alloc (.cells #[.int .i64 d.dev, .int .i64 d.inc, .int .i64 d.seq] 35)) none:=World.grownBy_alloc w2 _ none;have hJ3:=hJ _ w2 _ none hJ2 hba (fun r e=>by cases e);have hrg3:=hrg2.jk (KeepsWalks.alloc w2 (.cells #[.int .i64 d.dev, .int .i64 d.inc, .int .i64 d.seq] 35));obtain⟨fn,tmps,assign,body,hy,hR⟩:=hY (ss.map (·.1)) d _ hJ3 (by simp;omega);rw[show bT d= .agg #[.int .i64 d.dev, .int .i64 d.inc, .int .i64 d.seq]from rfl]at hen hy;clear hs2;gi_wp2
    refine hR.mono ?_;rintro e W3 ⟨rfl,hJ4,hk4⟩;gi_wp2
    have hrg4:=hrg3.jk hk4;have hz4:=hk4.size;have hz2:=hg2.size;go_roundw
    case rel=>exact⟨ss++[(d,nn)],left',hrg4,by simp;omega,by simpa using hJ4,by simp at hz4;omega⟩
    case measure=>rw[hrg4.left_eq,hrg.left_eq];omega
theorem OE (n:Nat) (hn:1<=n) (Bm b:Nat) (L:DL) (w:World) (hBm:Bm<w.heap.size) (hm:w.cell? ⟨Bm,0,none⟩=some (.map (some b))) (hown:aC w b bT cN L):
  SeqGives Fence.wide n Tryz.prog 231 #[.pointer (some ⟨Bm,0,none⟩)] bT (fun ss=>ss.Perm (L.map (·.1))) L.length w:=fun l J W hW hJ hY h0=>
 Pw l Bm b n hn L J hY W hJ ((hW.cell (p:=⟨Bm,0,none⟩) hBm).trans hm) (hown.same (hW.block b (Go.Gm.aC.lt hown))) h0
end
end Go.Proofs
namespace Go.Proofs
open Go Go.Am Go.RowKit Go.Sy Go.Gm
section
section
variable [Inhabited aL]
theorem VB {tab:bC} {w:World} {l:List ar} {v:Value} (h:cK w l v):aT (bW tab w).get (cw l) (cU w.heap.size v):=by
 rcases h with⟨rfl,a,c,rfl⟩|⟨b,off,cap,arr,e,fz,rfl,hb,hc,hl,hi⟩
 . cases a with
   |none=>
    cases c with
    |zero=>exact .cf rfl (.inl rfl)
    |succ c=>exact .cf rfl (.inr (.inr ⟨_,_,rfl⟩))
   |some a=>rw[wB];exact .cf rfl (.inr (.inr ⟨_,_,rfl⟩))
 . refine wU hb (sz:=3) (by omega) (fun _ _=>rfl) hl rfl hc fun i x j s hx hs=>?_
   have hil:i<l.length:=(Ae.1 hx).1;have hxe:l[i]=x:=(Ae.1 hx).2;obtain⟨e0,e1,e2⟩:=hi i hil;rw[hxe]at e0 e1 e2;have hj:j<3:=(Ae.1 hs).1;match j,hj with
   |0,_=>cases hs;exact⟨_,e0, .int _ _⟩
   |1,_=>cases hs;exact⟨_,e1, .int _ _⟩
   |2,_=>cases hs;exact⟨_,e2, .int _ _⟩
theorem Y1 {tab:bC} {w:World} {e:ae} {u:Value} (h:iP w u e):aT (bW tab w).get (.agg e.enc) (dy w.heap.size u):=by
 obtain⟨v,rfl,hd⟩:=h;have h18:=VB (tab:=tab) hd;unfold ic dy;refine .agg rfl fun i c x hc hx=>?_
 have hj:i<19:=(Ae.1 hc).1;match i,hj with
 |0,_|1,_|2,_|3,_|4,_|5,_|6,_|15,_|16,_|17,_=>cases hc;cases hx;exact .int _ _
 |7,_|8,_|9,_|10,_=>cases hc;cases hx;exact .str _
 |11,_|12,_|13,_|14,_=>cases hc;cases hx;exact .bool _
 |18,_=>cases hc;cases hx;exact h18
end
theorem G3 {w:World} {e:ae} {u:Value} (h:iP w u e) (hs:kY e):Calls Tryz.prog 65 #[u] w fun e' w'=>e'= .returned (.bool (gB e))/\Below w.heap.size w w':=
 yf (C:=fun I=>fw kY gB) (fun I=> @KZ I) (hfn:=rfl) (hb:=rfl) (args:=[u]) (fun I=>⟨e,hs,⟨rfl,fun j c v hc hv=>by
  match j with
  |0=>cases hc;cases hv;exact @Y1 I _ _ _ _ h
  |_+1=>cases hc⟩,rfl⟩)
def fG:List ar->List Value
 |[]=>[]
 |d::l=> .int .i64 d.dev:: .int .i64 d.inc:: .int .i64 d.seq::fG l
theorem y6:∀l,(fG l).length=l.length*3
 |[]=>rfl
 |d::l=>by simp only[fG,Az,y6 l];omega
theorem Iq:∀l,∀u∈fG l,u.oneCell'=true
 |[],u,h=>by cases h
 |d::l,u,h=>by
  simp only[fG,Ak]at h;rcases h with rfl|rfl|rfl|h
  . rfl
  . rfl
  . rfl
  . exact Iq l u h
theorem rC:∀(l:List ar) (i:Nat) (h:i<l.length),(fG l)[i*3]? =some (.int .i64 l[i].dev)/\(fG l)[i*3+1]? =some (.int .i64 l[i].inc)/\(fG l)[i*3+2]? =some (.int .i64 l[i].seq)
 |d::l,0,_=>⟨rfl,rfl,rfl⟩
 |d::l,i+1,h=>by
  have:=rC l i (by simpa using h);rw[show(i+1)*3=i*3+1+1+1 by omega];exact this
theorem RT (l:List ar) {j:Nat} {u:Value} (h:(fG l)[j]? =some u):∃i,∃hi:i<l.length,(j=i*3/\u= .int .i64 l[i].dev)\/(j=i*3+1/\u= .int .i64 l[i].inc)\/(j=i*3+2/\u= .int .i64 l[i].seq):=by
 have hj:j<l.length*3:=by rw[<-y6];exact(Ae.1 h).1
 have hi:j / 3<l.length:=by omega
 obtain⟨h0,h1,h2⟩:=rC l (j / 3) hi;refine⟨j / 3,hi,?_⟩;rcases(by omega:j=j / 3*3\/j=j / 3*3+1\/j=j / 3*3+2)with e|e|e
 . rw[e,h0]at h;exact .inl ⟨e,(DE h).symm⟩
 . rw[e,h1]at h;exact .inr (.inl ⟨e,(DE h).symm⟩)
 . rw[e,h2]at h;exact .inr (.inr ⟨e,(DE h).symm⟩)
theorem TH {w:World} {base:Nat} {l:List ar} {v:Value} (h:w.ownsRow base 35 3 v l.length (fG l)):cK w l v:=by
 rcases h.2 with⟨rfl,h0⟩|⟨g,cap,cur,rfl,hb,hg,h1,h2,h3,h4⟩
 . exact .inl ⟨AQ.1 h0,_,_,rfl⟩
 . refine .inr ⟨g,0,cap,cur,35,(0,0),rfl,hg,h1,by omega,fun i hi=>?_⟩;obtain⟨e0,e1,e2⟩:=rC l i hi;have key:∀j,j<l.length*3->cur[0+j]? =(fG l)[j]? :=fun j hj=>by
    rw[<-h4,Bc,An hj,Ba,Ay]
   exact⟨(key _ (by omega)).trans e0,(key (i*3+1) (by omega)).trans e1,(key (i*3+2) (by omega)).trans e2⟩
def kA (n:Nat) (l:List ar) (v:Value):Prop:=l=[]\/ ∃b off k c,v= .slice (some ⟨b,off,none⟩) k c/\n<=b
def dB (w:World) (n:Nat) (l:List ar) (v:Value):Prop:=(l=[]/\ ∃a c,v= .slice a 0 c)\/ ∃b cap arr,v= .slice (some ⟨b,0,none⟩) l.length cap/\n<=b/\w.heap[b]? =some (.cells arr 35 (0,0))/\l.length<=cap/\l.length*3<=arr.size/\
 ∀i (h:i<l.length),arr[i*3]? =some (.int .i64 l[i].dev)/\arr[i*3+1]? =some (.int .i64 l[i].inc)/\arr[i*3+2]? =some (.int .i64 l[i].seq)
theorem dB.cw {w:World} {n:Nat} {l:List ar} {v:Value} (h:dB w n l v):cK w l v:=by
 rcases h with h|⟨b,cap,arr,rfl,hb,h1,h2,h3,h4⟩
 . exact .inl h
 . exact .inr ⟨b,0,cap,arr,35,(0,0),rfl,h1,h2,by rw[Ay];exact h3,fun i hi=>by rw[Ay];exact h4 i hi⟩
theorem dB.mono {w:World} {n m:Nat} {l:List ar} {v:Value} (h:dB w n l v) (hm:m<=n):dB w m l v:=by
 rcases h with h|⟨b,cap,arr,rfl,hb,hr⟩
 . exact .inl h
 . exact .inr ⟨b,cap,arr,rfl,Aq hm hb,hr⟩
theorem dB.aW {w w':World} {n:Nat} {l:List ar} {v:Value} (h:dB w n l v) (hs:∀b arr,n<=b->w.heap[b]? =some (.cells arr 35 (0,0))->w'.heap[b]? =w.heap[b]?):dB w' n l v:=by
 rcases h with h|⟨b,cap,arr,rfl,hb,h1,hr⟩
 . exact .inl h
 . exact .inr ⟨b,cap,arr,rfl,hb,(hs b arr hb h1).trans h1,hr⟩
theorem dB.one {w:World} {n:Nat} {l:List ar} {v:Value} (h:dB w n l v):∃a n c,v= .slice a n c:=by
 rcases h with⟨_,a,c,rfl⟩|⟨_,_,_,rfl,_⟩<;>exact⟨_,_,_,rfl⟩
theorem SQ {w:World} {base:Nat} {l:List ar} {v:Value} (h:w.ownsRow base 35 3 v l.length (fG l)):dB w base l v:=by
 rcases h.2 with⟨rfl,h0⟩|⟨g,cap,cur,rfl,hb,hg,h1,h2,h3,h4⟩
 . exact .inl ⟨AQ.1 h0,_,_,rfl⟩
 . refine .inr ⟨g,cap,cur,rfl,hb,hg,h1,by omega,fun i hi=>?_⟩;obtain⟨e0,e1,e2⟩:=rC l i hi;have key:∀j,j<l.length*3->cur[j]? =(fG l)[j]? :=fun j hj=>by
    rw[<-h4,Bc,An hj,Ba]
   exact⟨(key _ (by omega)).trans e0,(key (i*3+1) (by omega)).trans e1,(key (i*3+2) (by omega)).trans e2⟩
theorem HH:(Tryz.prog.info? 35).map (fun i=>(i.zero,i.size,i.bytes))=some (some (.agg #[.int .i64 0, .int .i64 0, .int .i64 0]),3,24):=by kernel_rfl
theorem PK {w:World} {l:List ar} {v:Value} (h:cK w l v) (hl:l.length<=100000):Calls Tryz.prog 112 #[v] w fun e w'=>∃v',e= .returned v'/\dB w' w.heap.size l v'/\Below w.heap.size w w':=by
 have q40:∀(w:World) (a:Option Addr) (n c n' c':Nat),(binOp .eql 40 (.slice a n c) (.slice none n' c')).run Tryz.prog w= .ok (.bool a.isNone) w:=fun w a n c n' c'=>Lib.run_eql_slice_nil w _ _ a n c n' c' Tryz.underlying40
 obtain⟨i0,hi,hz0,hz1,hz2⟩:∃i0,Tryz.prog.info? 35=some i0/\i0.zero=some (.agg #[.int .i64 0, .int .i64 0, .int .i64 0])/\i0.size=3/\i0.bytes=24:=by
   have h:=HH
   cases e:Tryz.prog.info? 35 with
   |none=>rw[e]at h;cases h
   |some i=>rw[e]at h;simp only[Bh,A3,BP]at h;exact⟨i,rfl,h.1,h.2.1,h.2.2⟩
 have go:∀(p:Addr) (c:Nat),(∀j u,(fG l)[j]? =some u->w.cell? (p.add j)=some u)->Calls Tryz.prog 112 #[.slice (some p) l.length c] w fun e w'=>∃v',e= .returned v'/\dB w' w.heap.size l v'/\Below w.heap.size w w':=by
   intro p c hc;have A:Aside (∀j u,(fG l)[j]? =some u->w.cell? (p.add j)=some u):=hc;clear hc;go_enter Tryz.func112,Tryz.ntmps112
   go_wp2_with (at_builtin;refine wpList_append_own _ rfl _ _ 40 rfl w.heap.size 35 i0 _ 3 24 Tryz.underlying40 hi hz0 hz1 hz2 rfl (by omega) _ _ _ rfl (World.ownsRow_made w #[] 0 (Ai _) (Au _) (by simp)) p l.length c (fG l) rfl ?qc1 ?qc2 ?qc3 ?qc4 ?qc5 ?qc6 ?_)
   case qc1=>exact y6 l
   case qc2=>
     intro j u hj;exact Lib.cell?_alloc_some _ (A.out j u hj)
   case qc3=>exact Iq l
   case qc4=>rw[Ay];unfold maxLen;omega
   case qc5=>rw[Ay];omega
   case qc6=>simp
   intro v' w1 hown hgrow hnil;go_wp2;go_ret;refine⟨v',rfl,SQ (by simpa using hown),?_⟩;exact((Below.refl _ w).alloc (Ai _) _).grown hgrow (by simp) (by intro k hk;simp[Value.ownBlock]at hk;omega)
 rcases h with⟨rfl,a,c,rfl⟩|⟨b,off,cap,arr,e,fz,rfl,hb,hc,hl2,hi2⟩
 . cases a with
   | none=>
     clear go;go_enter Tryz.func112,Tryz.ntmps112
     go_wp2;go_ret;exact⟨_,rfl, .inl ⟨rfl,_,_,rfl⟩,Below.refl _ _⟩
   | some a=>
     exact go a c fun j u hj=>by cases hj
 . refine go ⟨b,off,none⟩ cap fun j u hj=>?_
   rw[Addr.add_lit];obtain⟨i,hil,hh⟩:=RT l hj;obtain⟨e0,e1,e2⟩:=hi2 i hil;have cell:∀{j:Nat} {u:Value},arr[j]? =some u->w.cell? ⟨b,j,none⟩=some u:=fun hx=>by
     unfold World.cell?;simp only[hb,A2,Ao,AK];exact hx
   rcases hh with⟨rfl,rfl⟩|⟨rfl,rfl⟩|⟨rfl,rfl⟩
   . exact cell e0
   . rw[<-De];exact cell e1
   . rw[<-De];exact cell e2
end
end Go.Proofs
namespace Go.Proofs
open Go Go.Am Go.RowKit Go.Sy Go.Gm Go.Maps Go.Sort
def kJ:Code->Option (Code×Code)
 | .rangeFunc _ _ a b=>some (a,b)
 | .seq a b=>match kJ a with
  |some x=>some x
  |none=>kJ b
 | .block _ c=>kJ c
 | .scope c=>kJ c
 | .loop c=>kJ c
 |_=>none
noncomputable def GV:Code:=((Tryz.f253.body.bind kJ).getD (.skip, .skip)).1
noncomputable def GW:Code:=((Tryz.f253.body.bind kJ).getD (.skip, .skip)).2
noncomputable def apRec (fn:FuncId) (sv:Value) (Bs D:Nat) (st:LoopState) (lu:Option Code):Loop:=
 {state:=st,pending:=lu,fn,tmps:=#[.slice none 0 0,sv, .pointer (some ⟨Bs,0,none⟩),undef, .slice none 0 0,undef,sv,undef,undef,undef,undef,undef,undef],params:=#[7],assign:=GV,body:=GW,defers:=D}
structure tb (w0:World) (fn:FuncId) (sv:Value) (Bs l D:Nat) (ss:List ar) (W:World):Prop where
 box:∃v,W.heap[Bs]? =some (.cells #[v] 40 (0,0))/\W.ownsRow w0.heap.size 35 3 v ss.length (fG ss)
 L:W.heap[l]? =some (.loop (apRec fn sv Bs D .ready none))
 K:W.heap[D]? =some (.deferred (some []))
 below:Below w0.heap.size w0 W
theorem Sf (w0:World) (fn:FuncId) (sv:Value) (Bs l D B:Nat) (hB:w0.heap.size<=B):AbidesFrom B (tb w0 fn sv Bs l D):=fun s W W' row h hg hrow=>by
 have hrow':∀r,row=some r->∃o:Obj,W.heap[r]? =some o/\o.isWalk=true:=fun r e=>(hrow r e).2
 obtain⟨v,hv,hr⟩:=h.box;exact⟨⟨v,(grownBy_keeps hg hrow' hv rfl).trans hv,ownsRow_abides_a hr hg hrow'⟩,(grownBy_keeps hg hrow' h.L rfl).trans h.L,(grownBy_keeps hg hrow' h.K rfl).trans h.K,h.below.grown hg h.below.size (fun k e=>Aq hB (hrow k e).1)⟩
theorem H6 (l:List ar) (x:ar):fG (l++[x])=fG l++[.int .i64 x.dev, .int .i64 x.inc, .int .i64 x.seq]:=by
 induction l with
 |nil=>rfl
 |cons d l ih=>simp only[BO,fG,ih]
theorem HK:∃i0,Tryz.prog.info? 35=some i0/\i0.zero=some (.agg #[.int .i64 0, .int .i64 0, .int .i64 0])/\i0.size=3/\i0.bytes=24:=by
 have h:=HH
 cases e:Tryz.prog.info? 35 with
 |none=>rw[e]at h;cases h
 |some i=>rw[e]at h;simp only[Bh,A3,BP]at h;exact⟨i,rfl,h.1,h.2.1,h.2.2⟩
theorem Ol (m:Nat) (w0:World) (fn:FuncId) (sv:Value) (Bs l D:Nat) (hBl:Bs≠l) (hDl:D≠l) (hDB:D≠Bs) (h0B:w0.heap.size<=Bs) (h0l:w0.heap.size<=l)
  (N:Nat) (hN:N<=1000000) (ss:List ar) (x:ar) (W:World) (h:tb w0 fn sv Bs l D ss W) (hlen:ss.length<N):
  YieldAt Fence.wide m Tryz.prog l #[bT x] W fun e W'=>e= .returned (.bool true)/\tb w0 fn sv Bs l D (ss++[x]) W'/\KeepsWalks W W':=by
 obtain⟨i0,hi,hz0,hz1,hz2⟩:=HK;obtain⟨v,hv,hrow⟩:=h.box;refine⟨fn,#[.slice none 0 0,sv, .pointer (some ⟨Bs,0,none⟩),undef, .slice none 0 0,undef,sv,bT x,undef,undef,undef,undef,undef],GV,GW,by simpa [apRec]using run_yield (P:=Tryz.prog) (args:=#[bT x]) h.L rfl,roundIn_of_wpIn trivial ?_⟩;have hl:l<W.heap.size:=(Ad.1 h.L).1;have hne:∀cur:Array Value,Obj.cells #[v] 40 (0,0)≠ .cells cur 35 (0,0):=fun cur e=>by
  have:=(Obj.cells.inj e).2.1;exact absurd this (by decide)
 obtain⟨W1,hW1⟩:∃W1,W.alloc (.cells #[.int .i64 x.dev, .int .i64 x.inc, .int .i64 x.seq] 35)=W1:=⟨_,rfl⟩;have hs1:W1.heap.size=W.heap.size+1:=by rw[<-hW1];simp
 have hold1:∀k,k<W.heap.size->W1.heap[k]? =W.heap[k]? :=fun k hk=>by rw[<-hW1];exact Below.heap_alloc _ _ k hk
 have hBlt0:Bs<W.heap.size:=(Ad.1 hv).1;have hDlt0:D<W.heap.size:=(Ad.1 h.K).1;have hv1:W1.heap[Bs]? =some (.cells #[v] 40 (0,0)):=(hold1 Bs hBlt0).trans hv;have hL1:W1.heap[l]? =some (.loop (apRec fn sv Bs D .ready none)):=(hold1 l hl).trans h.L;have hK1:W1.heap[D]? =some (.deferred (some [])):=(hold1 D hDlt0).trans h.K;have hrow1:W1.ownsRow w0.heap.size 35 3 v ss.length (fG ss):=by rw[<-hW1];exact hrow.alloc _
 have hb1:Below w0.heap.size w0 W1:=by rw[<-hW1];exact h.below.alloc h.below.size _
 have hk1:KeepsWalks W W1:=by rw[<-hW1];exact KeepsWalks.alloc _ _
 have x0':W1.cell? ⟨W.heap.size,0,none⟩=some (.int .i64 x.dev):=by rw[<-hW1];simp
 have x1':W1.cell? ⟨W.heap.size,1,none⟩=some (.int .i64 x.inc):=by rw[<-hW1];simp
 have x2':W1.cell? ⟨W.heap.size,2,none⟩=some (.int .i64 x.seq):=by rw[<-hW1];simp
 have hbr:=run_beginRound (P:=Tryz.prog) hL1 rfl;obtain⟨W2,hW2⟩:∃W2,W1.putObj l (.loop {apRec fn sv Bs D .ready none with state:= .busy})=W2:=⟨_,rfl⟩;rw[hW2]at hbr;have hg2:W1.grownBy W2 (some l):=by rw[<-hW2];exact grownBy_putObj_a _ _ _
 have hk2:KeepsWalks W1 W2:=by rw[<-hW2];exact KeepsWalks.putObj _ hL1 rfl
 have hv2:W2.heap[Bs]? =some (.cells #[v] 40 (0,0)):=by rw[<-hW2];exact(World.putObj_heap_other hBl).trans hv1
 have hK2:W2.heap[D]? =some (.deferred (some [])):=by rw[<-hW2];exact(World.putObj_heap_other hDl).trans hK1
 have hL2:W2.heap[l]? =some (.loop {apRec fn sv Bs D .ready none with state:= .busy}):=by rw[<-hW2];exact World.putObj_heap_same (by omega)
 have hrow2:W2.ownsRow w0.heap.size 35 3 v ss.length (fG ss):=hrow1.kept hg2 (ownsRow_ne_a hrow1 hL1 (fun cur e=>by cases e));have hb2:Below w0.heap.size w0 W2:=hb1.grown hg2 hb1.size (fun k e=>by cases e;exact h0l);have hs2:W2.heap.size=W.heap.size+1:=by rw[<-hW2];simp[hs1]
 have hbx:W2.heap[W.heap.size]? =W1.heap[W.heap.size]? :=by rw[<-hW2];exact World.putObj_heap_other (by omega)
 have x0:=eg x0' hbx;have x1:=eg x1' hbx;have x2:=eg x2' hbx;obtain⟨hc2,hf2⟩:=cell_of_box_a hv2;have hBlt:Bs<W2.heap.size:=(Ad.1 hv2).1;have hl2:l<W2.heap.size:=(Ad.1 hL2).1;have hDlt:D<W2.heap.size:=(Ad.1 hK2).1;have ne_of:∀{j:Nat} {o:Obj},W2.heap[j]? =some o->(∀cur,o≠ .cells cur 35 (0,0))->some j≠v.ownBlock:=fun hj hno=>by
  rcases ownsRow_ne_a hrow2 hj hno with e|e
  . rw[e];simp
  . exact fun e'=>e e'.symm
 clear hW2;rw[show bT x= .agg #[.int .i64 x.dev, .int .i64 x.inc, .int .i64 x.seq]from rfl];conv=>arg 4;whnf
 gi_wp2_with gi_round_op_a
 conv=>arg 4;whnf
 obtain⟨W2b,hW2b⟩:∃W2b,W2.alloc (.cells #[.int .i64 x.dev, .int .i64 x.inc, .int .i64 x.seq] 35)=W2b:=⟨_,rfl⟩;have hrow2b:W2b.ownsRow w0.heap.size 35 3 v ss.length (fG ss):=by rw[<-hW2b];exact hrow2.alloc _
 have hs2b:W2b.heap.size=W2.heap.size+1:=by rw[<-hW2b];simp
 have hold2b:∀k,k<W2.heap.size->W2b.heap[k]? =W2.heap[k]? :=fun k hk=>by rw[<-hW2b];exact Below.heap_alloc _ _ k hk
 have y0:W2b.cell? ⟨W2.heap.size,0,none⟩=some (.int .i64 x.dev):=by rw[<-hW2b];simp
 have y1:W2b.cell? ⟨W2.heap.size,1,none⟩=some (.int .i64 x.inc):=by rw[<-hW2b];simp
 have y2:W2b.cell? ⟨W2.heap.size,2,none⟩=some (.int .i64 x.seq):=by rw[<-hW2b];simp
 rw[hs2]at y0 y1 y2;have hcells:∀j u,([Value.int .i64 x.dev, .int .i64 x.inc, .int .i64 x.seq]:List Value)[j]? =some u->W2b.cell? ((⟨W.heap.size+1,0,none⟩:Addr).add j)=some u:=fun j u hj=>by
  rw[Addr.add_lit];match j with
  |0=>cases hj;exact y0
  |1=>cases hj;exact y1
  |2=>cases hj;exact y2
  |_+3=>cases hj
 have hb2b:Below w0.heap.size w0 W2b:=by rw[<-hW2b];exact hb2.alloc hb2.size _
 have hz2b:w0.heap.size<=W2b.heap.size:=hb2b.size;gi_wp2_with (first
  |(gi_at_builtin;refine wpListIn_append_own _ rfl _ _ 40 rfl w0.heap.size 35 i0 _ 3 24 Tryz.underlying40 hi hz0 hz1 hz2 rfl (by decide) _ _ _ rfl hrow2b ⟨W.heap.size+1,0,none⟩ 1 1 [.int .i64 x.dev, .int .i64 x.inc, .int .i64 x.seq] rfl rfl hcells (by simp[Value.oneCell']) (by unfold maxLen;omega) (by omega) hz2b ?_;intro v' w3 hown' hg3 hnil3;have hg3':W2b.grownBy w3 v.ownBlock:=hg3;have hv3:w3.heap[Bs]? =some (.cells #[v] 40 (0,0)):=(hg3'.block Bs (by omega) (ne_of hv2 hne)).trans ((hold2b Bs hBlt).trans hv2);obtain⟨hc3,hf3⟩:=cell_of_box_a hv3;obtain⟨g',cap',cur',rfl,hbase',hgb',hr1,hr2,hr3,hr4⟩:∃g' cap' cur',v'= .slice (some ⟨g',0,none⟩) (ss.length+1) cap'/\w0.heap.size<=g'/\w3.heap[g']? =some (.cells cur' 35 (0,0))/\ss.length+1<=cap'/\cap'<=maxLen/\cur'.size=cap'*3/\cur'.toList.take ((ss.length+1)*3)=fG ss++[.int .i64 x.dev, .int .i64 x.inc, .int .i64 x.seq]:=hown'.2.resolve_left (fun hh=>absurd hh.2 (by omega));go_frame)
  |gi_round_op_a)
 have hL3:w3.heap[l]? =some (.loop {apRec fn sv Bs D .ready none with state:= .busy}):=(hg3'.block l (by omega) (ne_of hL2 (fun cur e=>by cases e))).trans ((hold2b l hl2).trans hL2);have hK3:w3.heap[D]? =some (.deferred (some [])):=(hg3'.block D (by omega) (ne_of hK2 (fun cur e=>by cases e))).trans ((hold2b D hDlt).trans hK2);obtain⟨w4,hw4⟩:∃w4,w3.setCell ⟨Bs,0,none⟩ (.slice (some ⟨g',0,none⟩) (ss.length+1) cap')=w4:=⟨_,rfl⟩;rw[hw4];have hg4:w3.grownBy w4 (some Bs):=by rw[<-hw4];exact grownBy_setCell0_a _ _ _
 have hv4:w4.heap[Bs]? =some (.cells #[.slice (some ⟨g',0,none⟩) (ss.length+1) cap'] 40 (0,0)):=by rw[<-hw4];exact heap_setCell_box_a _ hv3
 have hL4:w4.heap[l]? =some (.loop {apRec fn sv Bs D .ready none with state:= .busy}):=(hg4.block l (Ad.1 hL3).1 (fun e=>hBl (by cases e;rfl))).trans hL3;have hK4:w4.heap[D]? =some (.deferred (some [])):=(hg4.block D (Ad.1 hK3).1 (fun e=>hDB (by cases e;rfl))).trans hK3;have hrow4:=hown'.kept hg4 (ownsRow_ne_a hown' hv3 hne);have hl4:l<w4.heap.size:=(Ad.1 hL4).1;have hb3:Below w0.heap.size w0 w3:=hb2b.grown hg3' hz2b (fun k e=>(hrow2b.lt k e).1);have hb4:Below w0.heap.size w0 w4:=hb3.grown hg4 hb3.size (fun k e=>by cases e;exact h0B);have hk2b:KeepsWalks W2 W2b:=by rw[<-hW2b];exact KeepsWalks.alloc _ _
 have hk4:KeepsWalks W w4:=(((hk1.trans hk2).trans hk2b).trans (KeepsWalks.of_grownBy hg3' (ownsRow_not_walk_a hrow2b))).trans (by rw[<-hw4];exact KeepsWalks.setCell _ _ _);clear hw4;refine⟨_,_,run_endRound none hL4,rfl,⟨⟨_,(World.putObj_heap_other hBl).trans hv4,?_⟩,World.putObj_heap_same hl4,(World.putObj_heap_other hDl).trans hK4,hb4.grown (grownBy_putObj_a _ _ _) hb4.size (fun k e=>by cases e;exact h0l)⟩,hk4.trans (KeepsWalks.putObj _ hL4 rfl)⟩;have:=hrow4.kept (grownBy_putObj_a w4 l (.loop {{apRec fn sv Bs D .ready none with state:= .busy}with state:=if(none:Option Code).isNone then .ready else .done,pending:=none})) (ownsRow_ne_a hrow4 hL4 (fun cur e=>by cases e));rw[H6];simpa using this
theorem Vf:∀args w,(callFunc 231 args).run Tryz.prog w= .ok (.enter 231 args) w:=enters_of Tryz.func231 (by kernel_rfl) rfl
theorem OJ (n:Nat) (hn:2<=n) (lb:Array Value) (S:List ar->Prop) (N:Nat) (hN:N<=1000000) (w:World) (hseq:SeqGives Fence.wide (n - 1) Tryz.prog 231 lb bT S N w):
    CallsIn Fence.wide n Tryz.prog 253 #[.slice none 0 0, .func (.func 231) #[] lb] w fun e w'=>∃(v:Value) (ss:List ar),e= .returned v/\S ss/\w'.ownsRow w.heap.size 35 3 v ss.length (fG ss)/\Below w.heap.size w w':=by
  have h1:1<=n:=by omega
  refine callsIn_of_wp_marks Tryz.func253 rfl trivial ?_ rfl;simp only[Tryz.ntmps253,BD,Az,AG,Nat.reduceAdd,Nat.reduceSub,Dw,Dv,DN,DB,BS,BO];gi_wp2
  refine wpIn_rangeFunc ?_;intro fn hfn;obtain⟨W0,hW0⟩:∃W0,w.alloc (.cells #[.slice none 0 0] 40)=W0:=⟨_,rfl⟩;have hs0:W0.heap.size=w.heap.size+1:=by rw[<-hW0];simp
  have hv0:W0.heap[w.heap.size]? =some (.cells #[.slice none 0 0] 40 (0,0)):=by rw[<-hW0];exact World.alloc_heap_new w _
  have hb0:Below w.heap.size w W0:=by rw[<-hW0];exact(Below.refl _ w).alloc (Ai _) _
  rw[hW0];obtain⟨W1,hW1⟩:∃W1,(W0.alloc (.deferred (some []))).alloc (.loop (apRec fn (.func (.func 231) #[] lb) w.heap.size W0.heap.size .ready none))=W1:=⟨_,rfl⟩;have hold:∀k,k<W0.heap.size->W1.heap[k]? =W0.heap[k]? :=fun k hk=>by
    rw[<-hW1];exact(Below.heap_alloc _ _ k (by simp;omega)).trans (Below.heap_alloc _ _ k hk)
  have hb1:Below w.heap.size w W1:=by rw[<-hW1];exact(hb0.alloc hb0.size _).alloc (by have:=hb0.size;simp;omega) _
  have hs1:W1.heap.size=W0.heap.size+2:=by rw[<-hW1];simp
  have hM:tb w fn (.func (.func 231) #[] lb) w.heap.size (W0.heap.size+1) W0.heap.size [] W1:=
    ⟨⟨_,(hold w.heap.size (by omega)).trans hv0,⟨rfl, .inl ⟨rfl,rfl⟩⟩⟩,
     by rw[<-hW1];have:=World.alloc_heap_new (W0.alloc (.deferred (some []))) (.loop (apRec fn (.func (.func 231) #[] lb) w.heap.size W0.heap.size .ready none));rwa [World.size_alloc]at this,
     by rw[<-hW1];exact(Below.heap_alloc _ _ _ (by simp)).trans (World.alloc_heap_new W0 _),hb1⟩
  refine⟨W0.heap.size+1,[{target:= .collected W0.heap.size,args:=#[]}],W1,{target:= .fn (.func 231) lb,args:=#[.func (.yield (W0.heap.size+1)) #[] #[]]},W1,231,
    #[.func (.yield (W0.heap.size+1)) #[] #[]]++lb,W1,?_,?_,?_,?_,fun _=>h1,?_⟩
  . rw[<-hW1];exact run_enterLoop_outer _ _ _ _ _
  . simp[resolve,go_sem]
  . intro f' hf';simp[Target.leads]at hf';subst hf';trivial
  . simp[invoke,go_sem,Vf]
  . refine(hseq (W0.heap.size+1) (tb w fn (.func (.func 231) #[] lb) w.heap.size (W0.heap.size+1) W0.heap.size) W1 hb1 (Sf _ _ _ _ _ _ _ hb1.size)
      (fun pre x W hJ hl=>Ol (n - 1 - 1) w fn _ w.heap.size (W0.heap.size+1) W0.heap.size (by omega) (by omega) (by omega) (Ai _) (by omega) N hN pre x W hJ hl) hM).mono ?_
    rintro e W2 ⟨⟨v0,rfl⟩,ss,hS,h2⟩;obtain⟨v,hv,hrow⟩:=h2.box;have hend:=run_endLoop (P:=Tryz.prog) h2.L (by simp[apRec]);obtain⟨W3,hW3⟩:∃W3,W2.putObj (W0.heap.size+1) (.loop {apRec fn (.func (.func 231) #[] lb) w.heap.size W0.heap.size .ready none with state:= .exhausted})=W3:=⟨_,rfl⟩;rw[hW3]at hend;have hne:∀cur:Array Value,Obj.cells #[v] 40 (0,0)≠ .cells cur 35 (0,0):=fun cur e=>by
      have:=(Obj.cells.inj e).2.1;exact absurd this (by decide)
    have hg3:W2.grownBy W3 (some (W0.heap.size+1)):=by rw[<-hW3];exact grownBy_putObj_a _ _ _
    have hv3:W3.heap[w.heap.size]? =some (.cells #[v] 40 (0,0)):=by rw[<-hW3];exact(World.putObj_heap_other (by omega)).trans hv
    have hK3:W3.heap[W0.heap.size]? =some (.deferred (some [])):=by rw[<-hW3];exact(World.putObj_heap_other (by omega)).trans h2.K
    have hrow3:=hrow.kept hg3 (ownsRow_ne_a hrow h2.L (fun cur e=>by cases e));have hb3:Below w.heap.size w W3:=h2.below.grown hg3 h2.below.size (fun k e=>by cases e;omega);obtain⟨hc3,hf3⟩:=cell_of_box_a hv3;clear hW3;refine⟨none,W3,hend,?_⟩;gi_wp2
    rw[<-hs0];refine⟨by simp, .inl ⟨_,_,rfl,run_takeDeferred hK3,?_⟩⟩;exact⟨_,results_tmp rfl _ _ _,v,ss,rfl,hS,hrow3.kept (grownBy_putObj_a _ _ _) (ownsRow_ne_a hrow3 hK3 (fun cur e=>by cases e)),hb3.grown (grownBy_putObj_a _ _ _) hb3.size (fun k e=>by cases e;omega)⟩
theorem PG (n:Nat) (hn:3<=n) (lb:Array Value) (S:List ar->Prop) (N:Nat) (hN:N<=1000000) (w:World) (hseq:SeqGives Fence.wide (n - 1 - 1) Tryz.prog 231 lb bT S N w):
  CallsIn Fence.wide n Tryz.prog 229 #[.func (.func 231) #[] lb] w fun e w'=>∃(v:Value) (ss:List ar),e= .returned v/\S ss/\w'.ownsRow w.heap.size 35 3 v ss.length (fG ss)/\Below w.heap.size w w':=by
 have h1:1<=n:=by omega
 refine callsIn_of_wp Tryz.func229 rfl trivial ?_ rfl;simp only[Tryz.ntmps229,BD,Az,AG,Nat.reduceAdd,Nat.reduceSub,Dw,Dv,DN,DB,BS,BO];have hf253:Fence.wide.fn 253:=trivial;have hs:=OJ (n - 1) (by omega) lb S N hN w hseq;gi_wp2_with (gi_at_call 253;refine hs.mono ?_;rintro e w' ⟨v,ss,rfl,hS,hrow,hb⟩)
 go_ret;exact⟨v,ss,rfl,hS,hrow,hb⟩
end Go.Proofs
namespace Go.Proofs
open Go.Shelf
def qL:Go.Shelf.Ren:=⟨fun|6=>230|15=>159|14=>254|28=>193|29=>194|20=>259|21=>260|22=>261|23=>262|24=>263|25=>264|26=>265|27=>266|46=>267|47=>233|48=>234|49=>268|50=>269|57=>270|n=>n,fun|22=>40|24=>35|25=>197|3=>3|39=>187|0=>0|53=>215|55=>217|4=>4|46=>209|45=>208|50=>153|5=>5|9=>9|66=>235|70=>239|76=>251|77=>252|n=>n,fun|n=>n⟩
theorem PO:Go.Proofs.SlLaysF0.n6 Tryz.prog qL:={
 mixed:=by kernel_rfl
 f6:=⟨Tryz.f230.name,by decide,Tryz.func230.trans (Ap some (by kernel_rfl))⟩
 f14:=⟨Tryz.f254.name,by decide,Tryz.func254.trans (Ap some (by kernel_rfl))⟩
 f15:=Tryz.func159.trans (Ap some (by kernel_rfl))
 f20:=⟨Tryz.f259.name,by decide,Tryz.func259.trans (Ap some (by kernel_rfl))⟩
 f21:=⟨Tryz.f260.name,by decide,Tryz.func260.trans (Ap some (by kernel_rfl))⟩
 f22:=⟨Tryz.f261.name,by decide,Tryz.func261.trans (Ap some (by kernel_rfl))⟩
 f23:=⟨Tryz.f262.name,by decide,Tryz.func262.trans (Ap some (by kernel_rfl))⟩
 f24:=⟨Tryz.f263.name,by decide,Tryz.func263.trans (Ap some (by kernel_rfl))⟩
 f25:=⟨Tryz.f264.name,by decide,Tryz.func264.trans (Ap some (by kernel_rfl))⟩
 f26:=⟨Tryz.f265.name,by decide,Tryz.func265.trans (Ap some (by kernel_rfl))⟩
 f27:=⟨Tryz.f266.name,by decide,Tryz.func266.trans (Ap some (by kernel_rfl))⟩
 f28:=Tryz.func193.trans (Ap some (by kernel_rfl))
 f29:=Tryz.func194.trans (Ap some (by kernel_rfl))
 f46:=⟨Tryz.f267.name,by decide,Tryz.func267.trans (Ap some (by kernel_rfl))⟩
 f47:=Tryz.func233.trans (Ap some (by kernel_rfl))
 f48:=Tryz.func234.trans (Ap some (by kernel_rfl))
 f49:=⟨Tryz.f268.name,by decide,Tryz.func268.trans (Ap some (by kernel_rfl))⟩
 f50:=⟨Tryz.f269.name,by decide,Tryz.func269.trans (Ap some (by kernel_rfl))⟩
 f57:=⟨Tryz.f270.name,by decide,Tryz.func270.trans (Ap some (by kernel_rfl))⟩
 t0:=Tryz.underlying0
 a0:=Tryz.isAgg0
 z0:=Tryz.sizeOf0
 v0:=Tryz.zeroValue0
 t3:=Tryz.underlying3
 a3:=Tryz.isAgg3
 z3:=Tryz.sizeOf3
 v3:=Tryz.zeroValue3
 t4:=Tryz.underlying4
 a4:=Tryz.isAgg4
 z4:=Tryz.sizeOf4
 v4:=Tryz.zeroValue4
 t5:=Tryz.underlying5
 a5:=Tryz.isAgg5
 z5:=Tryz.sizeOf5
 v5:=Tryz.zeroValue5
 t9:=Tryz.underlying9
 a9:=Tryz.isAgg9
 z9:=Tryz.sizeOf9
 v9:=Tryz.zeroValue9
 t22:=Tryz.underlying40
 a22:=Tryz.isAgg40
 z22:=Tryz.sizeOf40
 v22:=Tryz.zeroValue40
 t25:=Tryz.underlying197
 a25:=Tryz.isAgg197
 z25:=Tryz.sizeOf197
 v25:=Tryz.zeroValue197
 t39:=Tryz.underlying187
 a39:=Tryz.isAgg187
 z39:=Tryz.sizeOf187
 v39:=Tryz.zeroValue187
 t45:=Tryz.underlying208
 a45:=Tryz.isAgg208
 z45:=Tryz.sizeOf208
 v45:=Tryz.zeroValue208
 t46:=Tryz.underlying209
 a46:=Tryz.isAgg209
 z46:=Tryz.sizeOf209
 v46:=Tryz.zeroValue209
 t50:=Tryz.underlying153
 a50:=Tryz.isAgg153
 z50:=Tryz.sizeOf153
 v50:=Tryz.zeroValue153
 t53:=Tryz.underlying215
 a53:=Tryz.isAgg215
 z53:=Tryz.sizeOf215
 v53:=Tryz.zeroValue215
 t55:=Tryz.underlying217
 a55:=Tryz.isAgg217
 z55:=Tryz.sizeOf217
 v55:=Tryz.zeroValue217
 t66:=Tryz.underlying235
 a66:=Tryz.isAgg235
 z66:=Tryz.sizeOf235
 v66:=Tryz.zeroValue235
 t70:=Tryz.underlying239
 a70:=Tryz.isAgg239
 z70:=Tryz.sizeOf239
 v70:=Tryz.zeroValue239
 t76:=Tryz.underlying251
 a76:=Tryz.isAgg251
 z76:=Tryz.sizeOf251
 v76:=Tryz.zeroValue251
 t77:=Tryz.underlying252
 a77:=Tryz.isAgg252
 z77:=Tryz.sizeOf252
 v77:=Tryz.zeroValue252}
def qJ:Go.Shelf.Ren:=⟨fun|6=>122|15=>159|14=>158|28=>193|29=>194|20=>185|21=>186|22=>187|23=>188|24=>189|25=>190|26=>191|27=>192|46=>232|47=>233|48=>234|49=>235|50=>236|57=>255|n=>n,fun|22=>160|24=>24|25=>162|3=>3|39=>187|0=>0|53=>215|55=>217|4=>4|46=>209|45=>208|50=>153|5=>5|9=>9|66=>235|70=>239|76=>251|77=>252|n=>n,fun|n=>n⟩
theorem PM:Go.Proofs.SlLaysF0.n6 Tryz.prog qJ:={
 mixed:=by kernel_rfl
 f6:=⟨Tryz.f122.name,by decide,Tryz.func122.trans (Ap some (by kernel_rfl))⟩
 f14:=⟨Tryz.f158.name,by decide,Tryz.func158.trans (Ap some (by kernel_rfl))⟩
 f15:=Tryz.func159.trans (Ap some (by kernel_rfl))
 f20:=⟨Tryz.f185.name,by decide,Tryz.func185.trans (Ap some (by kernel_rfl))⟩
 f21:=⟨Tryz.f186.name,by decide,Tryz.func186.trans (Ap some (by kernel_rfl))⟩
 f22:=⟨Tryz.f187.name,by decide,Tryz.func187.trans (Ap some (by kernel_rfl))⟩
 f23:=⟨Tryz.f188.name,by decide,Tryz.func188.trans (Ap some (by kernel_rfl))⟩
 f24:=⟨Tryz.f189.name,by decide,Tryz.func189.trans (Ap some (by kernel_rfl))⟩
 f25:=⟨Tryz.f190.name,by decide,Tryz.func190.trans (Ap some (by kernel_rfl))⟩
 f26:=⟨Tryz.f191.name,by decide,Tryz.func191.trans (Ap some (by kernel_rfl))⟩
 f27:=⟨Tryz.f192.name,by decide,Tryz.func192.trans (Ap some (by kernel_rfl))⟩
 f28:=Tryz.func193.trans (Ap some (by kernel_rfl))
 f29:=Tryz.func194.trans (Ap some (by kernel_rfl))
 f46:=⟨Tryz.f232.name,by decide,Tryz.func232.trans (Ap some (by kernel_rfl))⟩
 f47:=Tryz.func233.trans (Ap some (by kernel_rfl))
 f48:=Tryz.func234.trans (Ap some (by kernel_rfl))
 f49:=⟨Tryz.f235.name,by decide,Tryz.func235.trans (Ap some (by kernel_rfl))⟩
 f50:=⟨Tryz.f236.name,by decide,Tryz.func236.trans (Ap some (by kernel_rfl))⟩
 f57:=⟨Tryz.f255.name,by decide,Tryz.func255.trans (Ap some (by kernel_rfl))⟩
 t0:=Tryz.underlying0
 a0:=Tryz.isAgg0
 z0:=Tryz.sizeOf0
 v0:=Tryz.zeroValue0
 t3:=Tryz.underlying3
 a3:=Tryz.isAgg3
 z3:=Tryz.sizeOf3
 v3:=Tryz.zeroValue3
 t4:=Tryz.underlying4
 a4:=Tryz.isAgg4
 z4:=Tryz.sizeOf4
 v4:=Tryz.zeroValue4
 t5:=Tryz.underlying5
 a5:=Tryz.isAgg5
 z5:=Tryz.sizeOf5
 v5:=Tryz.zeroValue5
 t9:=Tryz.underlying9
 a9:=Tryz.isAgg9
 z9:=Tryz.sizeOf9
 v9:=Tryz.zeroValue9
 t22:=Tryz.underlying160
 a22:=Tryz.isAgg160
 z22:=Tryz.sizeOf160
 v22:=Tryz.zeroValue160
 t25:=Tryz.underlying162
 a25:=Tryz.isAgg162
 z25:=Tryz.sizeOf162
 v25:=Tryz.zeroValue162
 t39:=Tryz.underlying187
 a39:=Tryz.isAgg187
 z39:=Tryz.sizeOf187
 v39:=Tryz.zeroValue187
 t45:=Tryz.underlying208
 a45:=Tryz.isAgg208
 z45:=Tryz.sizeOf208
 v45:=Tryz.zeroValue208
 t46:=Tryz.underlying209
 a46:=Tryz.isAgg209
 z46:=Tryz.sizeOf209
 v46:=Tryz.zeroValue209
 t50:=Tryz.underlying153
 a50:=Tryz.isAgg153
 z50:=Tryz.sizeOf153
 v50:=Tryz.zeroValue153
 t53:=Tryz.underlying215
 a53:=Tryz.isAgg215
 z53:=Tryz.sizeOf215
 v53:=Tryz.zeroValue215
 t55:=Tryz.underlying217
 a55:=Tryz.isAgg217
 z55:=Tryz.sizeOf217
 v55:=Tryz.zeroValue217
 t66:=Tryz.underlying235
 a66:=Tryz.isAgg235
 z66:=Tryz.sizeOf235
 v66:=Tryz.zeroValue235
 t70:=Tryz.underlying239
 a70:=Tryz.isAgg239
 z70:=Tryz.sizeOf239
 v70:=Tryz.zeroValue239
 t76:=Tryz.underlying251
 a76:=Tryz.isAgg251
 z76:=Tryz.sizeOf251
 v76:=Tryz.zeroValue251
 t77:=Tryz.underlying252
 a77:=Tryz.isAgg252
 z77:=Tryz.sizeOf252
 v77:=Tryz.zeroValue252}
end Go.Proofs
namespace Go.Proofs
open Go Go.Am Go.RowKit Go.Sy Go.Gm Go.Maps Go.Sort Go.Shelf
section
theorem Mb {w w':World} (h:Below w.heap.size w w') (hd:w.drawn<=w'.drawn):∃q os,w'=grow (w.drewN q) os:=by
 refine⟨w'.drawn - w.drawn,w'.heap.extract w.heap.size w'.heap.size,?_⟩;unfold grow World.drewN
 cases w' with
 | mk heap tape drawn os output=>
  obtain⟨h1,h2,h3,h4,h5⟩:=h;simp only at h1 h2 h3 h4 h5 hd⊢;subst h1;subst h2;subst h3;congr 1
  . apply BU
    intro i;rw[Ex];split
    . rename_i hi;exact h5 i hi
    . rename_i hi;rw[Fc];by_cases h6:i<heap.size
      . simp only[Nat.min_self];rw[An (by omega),show w.heap.size+(i - w.heap.size)=i by omega]
      . rw[Aj (by omega),DV (by omega)]
  . omega
def jO (x:ar):List Value:=[.int .i64 x.dev, .int .i64 x.inc, .int .i64 x.seq]
def jD (x:aA):List Value:=[.string ⟨x.name.toArray⟩, .string ⟨x.domain.toArray⟩, .string ⟨x.path.toArray⟩]
def nC (x y:aA):Int:=if fk x y then -1 else 1
section
variable [Inhabited aL]
theorem XM:CO Gv yc:=bO (C:=yc) (cfg:=fun y=>cg oC (cS y)) bA (fun _=>rfl) (fun _=>o8) (n:=400) (by
 rintro⟨x,y⟩ -
 (conv=>whnf)
 refine⟨(x,y),?_⟩
 repeat' (first|exact trivial|exact rfl|((conv=>whnf);first|(apply aJ<;>intro)|apply And.intro)))
def LV:aM:={Y:=aA×aA,pre:=fun _=>True,args:=fun y=>[.agg y.1.enc, .agg y.2.enc],res:=fun y=>i64 (nC y.1 y.2)}
theorem YV:CO qC LV:=bO (C:=LV) (cfg:=fun y=>cg oC (cS y)) bA (fun _=>rfl) (fun _=>o8) (n:=400) (by
 rintro⟨x,y⟩ -
 (conv=>whnf)
 refine⟨(x,y),?_⟩
 repeat ((conv=>whnf);first|refine⟨rfl,?_⟩|refine⟨trivial,?_⟩)
 repeat' (first|exact trivial|exact rfl|((conv=>whnf);first|(apply aJ<;>intro)|apply And.intro))
 all_goals (simp_all[nC]))
end
theorem X0:SWO (ltOf nJ) where
 irrefl x:=by
  have:= @vB ⟨⟨True,#[]⟩⟩ x;exact this
 trans x y z h1 h2:= @vy ⟨⟨True,#[]⟩⟩ x y z h1 h2
 ntrans x y z h1 h2:=by
  letI:Inhabited aL:=⟨⟨True,#[]⟩⟩
  have h1:¬bI x y=true:=by rw[EO];exact h1
  have h2:¬bI y z=true:=by rw[EO];exact h2
  show bI x z=false
  rw[<-EO];rw[tG]at*;omega
theorem wR (x y:aA):ltOf nC x y=fk x y:=by
 unfold ltOf nC
 cases fk x y<;>simp
theorem X1:SWO (ltOf nC) where
 irrefl x:=by
  letI:Inhabited aL:=⟨⟨True,#[]⟩⟩
  rw[wR];exact nq x
 trans x y z h1 h2:=by
  letI:Inhabited aL:=⟨⟨True,#[]⟩⟩
  rw[wR]at*;exact pX x y z h1 h2
 ntrans x y z h1 h2:=by
  letI:Inhabited aL:=⟨⟨True,#[]⟩⟩
  rw[wR]at*;rcases tH x y with h|h|h
  . rw[h]at h1;cases h1
  . subst h;exact h2
  . rcases tH y z with k|k|k
    . rw[k]at h2;cases h2
    . subst k;exact h1
    . cases hz:fk x z with
      |false=>rfl
      |true=>
       have h3:=pX z y x k h;have h4:=pX x z x hz h3;rw[nq]at h4;cases h4
theorem La {Fz:Nat->Option AO} {n:Nat} (x:ar) [Inhabited aL]:aT Fz (.agg x.enc) (dy n (.agg (jO x).toArray)):=CT [x.dev,x.inc,x.seq]
theorem CA {Fz:Nat->Option AO} {n:Nat} (k:aA) [Inhabited aL]:aT Fz (.agg k.enc) (dy n (.agg (jD k).toArray)):=by
 unfold dy;refine .agg rfl fun i c v hc hv=>?_
 have hj:i<3:=(Ae.1 hc).1;unfold aA.enc at hc;match i,hj with
 |0,_|1,_|2,_=>cases hc;cases hv;exact .str _
theorem P0 (aY off size:Nat) (w:World):CmpLays Tryz.prog 184 #[] jO 3 nJ aY off size w:=by
 intro m os dk _ x y;letI:Inhabited aL:=⟨⟨True,#[]⟩⟩
 have h:=nh bA.ok XM (fn:=Tryz.f184) (hfn:=by kernel_rfl) (hb:=rfl) (y:=(x,y)) trivial (args:=[.agg (jO x).toArray, .agg (jO y).toArray]) (w:=sortWorldK jO 3 w aY off m dk os) (PL.cons (La x) (PL.cons (La y) PL.nil)) (db.oV rfl _);refine Calls.mono h ?_;rintro e w' ⟨v,rfl,hv,hbel,hd⟩;have hv:v= .int .i64 (nJ x y):=iN hv;exact⟨by rw[hv],Mb hbel (hd trivial)⟩
theorem PY (aY off size:Nat) (w:World):CmpLays Tryz.prog 123 #[] jD 3 nC aY off size w:=by
 intro m os dk _ x y;letI:Inhabited aL:=⟨⟨True,#[]⟩⟩
 have h:=nh bA.ok YV (fn:=Tryz.f123) (hfn:=by kernel_rfl) (hb:=rfl) (y:=(x,y)) trivial (args:=[.agg (jD x).toArray, .agg (jD y).toArray]) (w:=sortWorldK jD 3 w aY off m dk os) (PL.cons (CA x) (PL.cons (CA y) PL.nil)) (db.oV rfl _);refine Calls.mono h ?_;rintro e w' ⟨v,rfl,hv,hbel,hd⟩;have hv:v= .int .i64 (nC x y):=iN hv;exact⟨by rw[hv],Mb hbel (hd trivial)⟩
theorem Qa:∀w,(isAgg (qL.t 24)).run Tryz.prog w= .ok true w:=fun w=>by kernel_rfl
theorem Pr:∀w,(Go.sizeOf (qL.t 24)).run Tryz.prog w= .ok 3 w:=fun w=>by kernel_rfl
theorem Qe:∀w,(isAgg (qJ.t 24)).run Tryz.prog w= .ok true w:=fun w=>by kernel_rfl
theorem Pv:∀w,(Go.sizeOf (qJ.t 24)).run Tryz.prog w= .ok 3 w:=fun w=>by kernel_rfl
theorem yM (x:ar):∀v∈jO x,v.oneCell'=true:=by
 intro v hv;simp only[jO,Ak,BN,Dr]at hv;rcases hv with rfl|rfl|rfl<;>rfl
theorem yP (x:aA):∀v∈jD x,v.oneCell'=true:=by
 intro v hv;simp only[jD,Ak,BN,Dr]at hv;rcases hv with rfl|rfl|rfl<;>rfl
theorem PC (aY off cap:Nat) (d:Array ar) (w:World) (hH:HoldsK jO 3 w aY off d) (hblk:aY<w.heap.size) (hsz:d.size<4611686018427387904):
  Calls Tryz.prog 230 #[.slice (some ⟨aY,off,none⟩) d.size cap, .func (.func 184) #[] #[]] w fun e w'=>e= .returned (.tuple #[])/\ ∃d' n os,PermIn 0 d.size d d'/\SortedIn (ltOf nJ) 0 d.size d'/\w'=sortWorldK jO 3 w aY off n d' os:=
 AnyQ.slices_SortFunc PO 3 Qa Pr jO (fun _=>rfl) yM nJ X0 184 #[] aY off cap d w (enters_of Tryz.func184 (by kernel_rfl) rfl) (P0 aY off d.size w) hH hblk hsz
theorem PD (aY off cap:Nat) (d:Array aA) (w:World) (hH:HoldsK jD 3 w aY off d) (hblk:aY<w.heap.size) (hsz:d.size<4611686018427387904):
  Calls Tryz.prog 122 #[.slice (some ⟨aY,off,none⟩) d.size cap, .func (.func 123) #[] #[]] w fun e w'=>e= .returned (.tuple #[])/\ ∃d' n os,PermIn 0 d.size d d'/\SortedIn (ltOf nC) 0 d.size d'/\w'=sortWorldK jD 3 w aY off n d' os:=
 AnyQ.slices_SortFunc PM 3 Qe Pv jD (fun _=>rfl) yP nC X1 123 #[] aY off cap d w (enters_of Tryz.func123 (by kernel_rfl) rfl) (PY aY off d.size w) hH hblk hsz
end
section
section
variable [Inhabited aL]
def xu (g:FuncId):aM:={Y:=Unit,pre:=fun _=>True,args:=fun _=>[.nils, .fn g [] []],res:=fun _=> .bJ []}
theorem Yz:CO Oz (xu Gv):=bO (C:=xu Gv) (cfg:=fun y=>cg oC (cS y)) bA (fun _=>rfl) (fun _=>o8) (n:=3000) (by
 rintro⟨⟩ -
 (conv=>whnf)
 trivial)
theorem VT:CO OA (xu qC):=bO (C:=xu qC) (cfg:=fun y=>cg oC (cS y)) bA (fun _=>rfl) (fun _=>o8) (n:=3000) (by
 rintro⟨⟩ -
 (conv=>whnf)
 trivial)
end
theorem JD [Inhabited aL] {P:Program} {tab:bC} (ok:bX P tab) {f:FuncId} {C:aM} (hc:Go.Sy.cJ P tab f C) {fn:Func} {body:Code} (hfn:tab.fns.get f=some fn) (hb:fn.body=some body) {y:C.Y} (hy:C.pre y) {args:List Value} {avs:List AV} (hconc:∀E,bF E avs=args) {w:World}
  (hs:PL (bW tab w).get (C.args y) avs) (hw:db w):Calls P f args.toArray w (fun e w'=>∃v,e= .returned v/\Rd w' (fun _=>True) true (C.res y) v/\Below w.heap.size w w'/\((default:aL).dr->w.drawn<=w'.drawn)):=by
 intro cs;have hP:=ok.fns f fn hfn;have hdom:∀i o,(bW tab w).get i=some o->i<(bW tab w).next:=fun i o hi=>(oo tab w (E:=⟨fun i=>i,fun _=>0⟩) (fun _ _=>rfl)).eC i o hi
 let E:Env:=⟨fun i=>i,fun _=>0⟩
 let D:Nat->Prop:=fun i=>i<w.heap.size
 have hag:∀E',aw D E E'->∀i,i<w.heap.size->E'.aY i=i:=fun E' he i hi=>(he i hi).1
 have hR:Rel D E (KS.old w.heap.size) {fr:=ak.enter fn f body avs .normal,cs:=[],h:=bW tab w} cs (Frame.enter P f args.toArray .normal) cs w:=by
  refine⟨fun E' he=>⟨oo tab w (hag E' he),?_,rfl⟩,fun i h=>h,p8 _ _ _ _ _,fun f hf=>by cases hf⟩;rw[<-mh hP hb,hconc]
 obtain⟨v,h',⟨Fz',_,f2,hsim,_⟩,fr',w',v',E',D',s1,s2,s3,s4,s5,s6,s7,s8,s9,s10⟩:=hc fn body hfn hb y hy (bW tab w).get (bW tab w) _ (fun _ _ h=>h) hdom hs.1 hs.2 D E _ cs _ cs w hR hw.kO;obtain⟨g1,g2⟩:=s4 E' (aw.refl _ _);subst g2;exact⟨.returned (ah E' v),w',fr',⟨_,rfl,tU g1 f2 hsim,⟨s8.os,s8.tape,s8.output,s8.size,s8.block⟩,s8.drawn⟩,s1,s2,s3⟩
theorem Mj [Inhabited aL] {w:World} {p:Nat->Prop} {g:Bool} {v:Value} (h:Rd w p g (.bJ []) v):v= .tuple #[]:=by
 cases h with
 | @bJ cs vs h1 h2=>
  obtain⟨l⟩:=vs;match l,h1 with
  |[],_=>rfl
theorem PB (w:World):Calls Tryz.prog 230 #[.slice none 0 0, .func (.func 184) #[] #[]] w fun e w'=>e= .returned (.tuple #[])/\Below w.heap.size w w':=by
 letI:Inhabited aL:=⟨⟨True,#[]⟩⟩
 refine Calls.mono (JD bA.ok Yz (fn:=Tryz.f230) (hfn:=rfl) (hb:=rfl) (y:=()) trivial (args:=[.slice none 0 0, .func (.func 184) #[] #[]]) (avs:=[.nils, .fn (.func 184) [] []]) (fun E=>by simp[ah]) (w:=w) (PL.cons .nils (PL.cons (.fn (xs:=[]) (ys:=[]) (us:=[]) (vs:=[]) rfl rfl (fun i x u h=>(by simp at h)) (fun i x u h=>(by simp at h))) PL.nil)) (db.oV rfl _)) ?_;rintro e w' ⟨v,rfl,hv,hb,_⟩;exact⟨by rw[Mj hv],hb⟩
theorem Pk (w:World):Calls Tryz.prog 122 #[.slice none 0 0, .func (.func 123) #[] #[]] w fun e w'=>e= .returned (.tuple #[])/\Below w.heap.size w w':=by
 letI:Inhabited aL:=⟨⟨True,#[]⟩⟩
 refine Calls.mono (JD bA.ok VT (fn:=Tryz.f122) (hfn:=rfl) (hb:=rfl) (y:=()) trivial (args:=[.slice none 0 0, .func (.func 123) #[] #[]]) (avs:=[.nils, .fn (.func 123) [] []]) (fun E=>by simp[ah]) (w:=w) (PL.cons .nils (PL.cons (.fn (xs:=[]) (ys:=[]) (us:=[]) (vs:=[]) rfl rfl (fun i x u h=>(by simp at h)) (fun i x u h=>(by simp at h))) PL.nil)) (db.oV rfl _)) ?_;rintro e w' ⟨v,rfl,hv,hb,_⟩;exact⟨by rw[Mj hv],hb⟩
end
end Go.Proofs
namespace Go.Gm
open Go Go.RowKit Go.Maps Go.Proofs Go.ChangeMaps
section
variable {P:Program} {K V:Type} [DecidableEq K]
theorem QP {es:List MapEntry} (hs:(es.map (·.born)).Pairwise (· < ·)) {j:Nat} (hj:j<es.length) {n:Nat} (hn:es[j].born=n):es.findIdx? (fun e=>((e.born:Int)==(n:Int)))=some j:=by
 rw[EE];refine⟨hj,by simp[hn],fun i hi=>?_⟩;have hp:=Bt.1 hs i j (by simp;omega) (by simpa using hj) hi;simp only[List.getElem_map]at hp;simp;omega
theorem H8 {es:Array MapEntry} (hs:(es.toList.map (·.born)).Pairwise (· < ·)) {j:Nat} (hj:j<es.size) {n:Nat} (hn:es[j].born=n):es.findIdx? (fun e=>((e.born:Int)==(n:Int)))=some j:=by
 obtain⟨l⟩:=es;rw[List.findIdx?_toArray];exact QP hs hj hn
theorem aC.entry {w:World} {b:Nat} {enc:K->Value} {encV:V->Value} {L:List (K×V)} (h:aC w b enc encV L) {T Te t:TypeId} (hK:KeyLaw P T enc) (ht:P.underlying t=some (.map T Te)) {z:V} (hz:∀w:World,(zeroValue Te).run P w= .ok (encV z) w) (k:K) (val:V):
  ∃ (v:Value) (n:Nat) (o o':Obj),(Instr.mapEntry t (.map (some b)) (enc k)).run P w= .ok (.tuple #[v,goInt n]) (World.bc w b o)/\(Instr.entryStore t (.map (some b)) (goInt n) (encV val)).run P (World.bc w b o)= .ok () (World.bc (World.bc w b o) b o')/\ly (World.bc w b o) b/\
    aC (World.bc (World.bc w b o) b o') b enc encV (cB L k val)/\(aC (World.bc w b o) b enc encV L\/k∉L.map (·.1)/\aC (World.bc w b o) b enc encV (L++[(k,z)])):=by
 obtain⟨⟨es,clk,hb,hr,hs,hc⟩,hnd⟩:=h;have hf:=rE hK k w es.toList L hr;have hgo:(getObj b).run P w= .ok (.map es clk) w:=by simp[getObj,Sem.run,hb]
 cases e:idxOf k encV L 0 with
 |none=>
  have hk:=gv.1 e;have h1:(Instr.mapEntry t (.map (some b)) (enc k)).run P w= .ok (.tuple #[encV z,goInt clk]) (World.bc w b (.map (es.push ⟨enc k,encV z,clk⟩) (clk+1))):=by
    unfold Instr.mapEntry;simp only[Sem.run_bind,run_underlying ht,Result.andThen_ok,hgo,hK.iG,hf,e,hz,pb hb,Sem.run_pure]
  have hb1:(World.bc w b (.map (es.push ⟨enc k,encV z,clk⟩) (clk+1))).heap[b]? =some (.map (es.push ⟨enc k,encV z,clk⟩) (clk+1)):=by rw[mo hb,An rfl]
  have hgo1:(getObj b).run P (World.bc w b (.map (es.push ⟨enc k,encV z,clk⟩) (clk+1)))= .ok (.map (es.push ⟨enc k,encV z,clk⟩) (clk+1)) (World.bc w b (.map (es.push ⟨enc k,encV z,clk⟩) (clk+1))):=by simp[getObj,Sem.run,hb1]
  have hbig:(((es.push ⟨enc k,encV z,clk⟩).toList.map (·.born)).Pairwise (· < ·)):=by
    rw[Dl,AL,D3];refine⟨hs,by simp,fun a ha c hc'=>?_⟩;obtain⟨x,hx,rfl⟩:=Av.1 ha;simp at hc';subst hc';exact hc x hx
  have hfi:(es.push ⟨enc k,encV z,clk⟩).findIdx? (fun e=>((e.born:Int)==(clk:Int)))=some es.size:=by
    exact H8 hbig (j:=es.size) (by simp) (by simp)
  have h2:∀x:Value,(Instr.entryStore t (.map (some b)) (goInt clk) x).run P (World.bc w b (.map (es.push ⟨enc k,encV z,clk⟩) (clk+1)))= .ok () (World.bc (World.bc w b (.map (es.push ⟨enc k,encV z,clk⟩) (clk+1))) b (.map ((es.push ⟨enc k,encV z,clk⟩).modify es.size fun e=>{e with val:=x}) (clk+1))):=fun x=>by
    unfold Instr.entryStore;simp only[Sem.run_bind,hgo1,Result.andThen_ok,asInt,asIntOf,goInt,Sem.run_pure,hfi,pb hb1]
  have hmod:((es.push ⟨enc k,encV z,clk⟩).modify es.size fun e=>{e with val:=encV val}).toList=es.toList++[⟨enc k,encV val,clk⟩]:=by
    rw[D6,Dl];apply BZ
    intro i;rw[D4];by_cases hi:es.size=i
    . subst hi;simp[<-Array.length_toList]
    . rcases D8 i es.size with h'|h'
      . simp[hi,AW,h']
      . obtain⟨m,hm⟩:∃m,i - es.size=m+1:=⟨i - es.size - 1,by omega⟩;simp[hi,Bk,h',hm]
  refine⟨_,clk,_,_,h1,h2 (encV val),⟨_,_,hb1⟩,⟨⟨_,_,by rw[mo hb1,An rfl],?_,?_,?_⟩,ub hnd k val⟩, .inr ⟨hk,⟨_,_,hb1,?_,hbig,?_⟩,?_⟩⟩
  . unfold cB gR;rw[Aj hk,hmod,AL,AL,hr];rfl
  . rw[hmod,AL,D3];refine⟨hs,by simp,fun a ha c hc'=>?_⟩;obtain⟨x,hx,rfl⟩:=Av.1 ha;simp at hc';subst hc';exact hc x hx
  . intro x hx;rw[hmod,A7]at hx;rcases hx with hx|hx
    . have:=hc x hx;omega
    . simp at hx;subst hx;exact DZ _
  . unfold gR;rw[Dl,AL,AL,hr];rfl
  . intro x hx;rw[Dl,A7]at hx;rcases hx with hx|hx
    . have:=hc x hx;omega
    . simp at hx;subst hx;exact DZ _
  . have:=ub hnd k z;unfold cB at this;rwa [Aj hk]at this
 |some q=>
  obtain⟨j,u⟩:=q;obtain⟨n,hj,hn,g1,g2,_⟩:=wP e;simp only[Ay]at hj;subst hj;have hlen:es.size=L.length:=by simpa using Ap List.length hr
  have hn':j<es.size:=by omega
  have hkey:es[j].key=enc k:=by
    have:=Ap (fun l=>(l[j]?).map Prod.fst) hr;simp[hn',hn]at this;rw[this,g1]
  have hks:(Instr.keyThatStays (((es[j]?).map fun x:MapEntry=>x.key).getD (enc k)) (enc k)).run P w= .ok (enc k) w:=by
    simp[hn',hkey,Instr.keyThatStays,hK.bits]
  have hsame:(es.modify j fun e=>{e with key:=enc k})=es:=by
    apply BU
    intro i;rw[Di];by_cases hi:j=i
    . subst hi;rw[An rfl,AX hn'];simp only[Bh,<-hkey]
    . rw[Aj hi]
  have h1:(Instr.mapEntry t (.map (some b)) (enc k)).run P w= .ok (.tuple #[u,goInt es[j].born]) (World.bc w b (.map es clk)):=by
    unfold Instr.mapEntry;simp only[Sem.run_bind,run_underlying ht,Result.andThen_ok,hgo,hK.iG,hf,e,hks,hsame,pb hb,Sem.run_pure];simp[hn']
  have hb1:(World.bc w b (.map es clk)).heap[b]? =some (.map es clk):=by rw[mo hb,An rfl]
  have hgo1:(getObj b).run P (World.bc w b (.map es clk))= .ok (.map es clk) (World.bc w b (.map es clk)):=by simp[getObj,Sem.run,hb1]
  have hfi:es.findIdx? (fun e=>((e.born:Int)==(es[j].born:Int)))=some j:=by
    exact H8 hs (j:=j) hn' rfl
  have h2:∀x:Value,(Instr.entryStore t (.map (some b)) (goInt es[j].born) x).run P (World.bc w b (.map es clk))= .ok () (World.bc (World.bc w b (.map es clk)) b (.map (es.modify j fun e=>{e with val:=x}) clk)):=fun x=>by
    unfold Instr.entryStore;simp only[Sem.run_bind,hgo1,Result.andThen_ok,asInt,asIntOf,goInt,Sem.run_pure,hfi,pb hb1]
  have hput:cB L k val=L.set j (k,val):=by
    have:=MM hnd hn val;rw[g1]at this;exact this
  have hborn:(es.modify j fun e=>{e with val:=encV val}).toList.map (·.born)=es.toList.map (·.born):=by
    apply BZ
    intro i;rw[AR,AR,D6,D4];by_cases h:j=i
    . simp[h,B5]
    . simp[h]
  refine⟨_,es[j].born,_,_,h1,h2 (encV val),⟨_,_,hb1⟩,⟨⟨_,_,by rw[mo hb1,An rfl],?_,by rw[hborn];exact hs,fun x hx=>?_⟩,ub hnd k val⟩, .inl ⟨⟨_,_,hb1,hr,hs,hc⟩,hnd⟩⟩
  . rw[hput];unfold gR at hr⊢;apply BZ
    intro i;have hri:=Ap (fun l=>l[i]?) hr;simp only[AR]at hri⊢;rw[D6,D4,EI];by_cases h:j=i
    . subst h;simp[hn,hn',hkey]
    . simp only[h,AK];simpa using hri
  . have hm:x.born∈(es.modify j fun e=>{e with val:=encV val}).toList.map (·.born):=Av.2 ⟨x,hx,rfl⟩;rw[hborn]at hm;obtain⟨y,hy,he⟩:=Av.1 hm;rw[<-he];exact hc y hy
end
end Go.Gm
namespace Go.Proofs
open Go Go.Am Go.RowKit Go.Sy Go.Gm Go.Maps Go.Sort Go.Shelf
theorem wK (l:List ar) {j:Nat} (hj:j<l.length*3):(fG l)[j]? =some ((jO l.toArray[j / 3]!)[j % 3]!):=by
 have hi:j / 3<l.length:=by omega
 obtain⟨e0,e1,e2⟩:=rC l (j / 3) hi;have hg:l.toArray[j / 3]! =l[j / 3]:=by rw[BQ _ _ (by simpa using hi)];simp
 rw[hg];rcases(by omega:j=j / 3*3\/j=j / 3*3+1\/j=j / 3*3+2)with e|e|e
 . have hm:j % 3=0:=by omega
   rw[hm];conv=>lhs;rw[e]
   exact e0
 . have hm:j % 3=1:=by omega
   rw[hm];conv=>lhs;rw[e]
   exact e1
 . have hm:j % 3=2:=by omega
   rw[hm];conv=>lhs;rw[e]
   exact e2
theorem MG {w:World} {g:Nat} {cur:Array Value} {l:List ar} (hg:w.heap[g]? =some (.cells cur 35 (0,0))) (h4:cur.toList.take (l.length*3)=fG l):HoldsK jO 3 w g 0 l.toArray:=by
 intro j hj;have hj':j<l.length*3:=by simpa using hj
 have h2:=Ap (fun l=>l[j]?) h4;simp only[Bc,An hj',Ba]at h2;rw[wK l hj']at h2;constructor
 . unfold World.cell?
   simp only[hg,A2,Ao,AK,Ay];rw[h2,get_flatK jO 3 l.toArray j (by simpa using hj')];rfl
 . unfold World.frozen?
   simp[hg]
theorem S7 {w:World} {g:Nat} {l:List ar} {c:Nat} (hc:l.length<=c) (h:HoldsK jO 3 w g 0 l.toArray):cK w l (.slice (some ⟨g,0,none⟩) l.length c):=by
 by_cases h0:l=[]
 . subst h0;exact .inl ⟨rfl,_,_,rfl⟩
 have hlen:0<l.length:=AY.2 h0;have hcell:∀j,j<l.length*3->w.cell? ⟨g,j,none⟩=(fG l)[j]? :=fun j hj=>by
   have:=(h j (by simpa using hj)).1;rw[Ay]at this;rw[this,wK l hj,get_flatK jO 3 l.toArray j (by simpa using hj)];rfl
 have h1:=hcell 0 (by omega);have hb:∃arr e fz,w.heap[g]? =some (.cells arr e fz):=by
   rw[wK l (by omega)]at h1;unfold World.cell? at h1
   cases e:w.heap[g]? with
   |none=>simp[e]at h1
   |some o=>
    cases o with
    |cells arr t fz=>exact⟨arr,t,fz,rfl⟩
    |_=>simp[e]at h1
 obtain⟨arr,e,fz,hb⟩:=hb;have harr:∀j,j<l.length*3->arr[j]? =(fG l)[j]? :=fun j hj=>by
   have:=hcell j hj;unfold World.cell? at this;simp only[hb,A2,Ao,AK]at this;exact this
 refine .inr ⟨g,0,c,arr,e,fz,rfl,hb,hc,?_,fun i hi=>?_⟩
 . have:=harr (l.length*3 - 1) (by omega);rw[wK l (by omega)]at this;have:=(Ad.1 this).1;omega
 . obtain⟨e0,e1,e2⟩:=rC l i hi;rw[Ay];exact⟨(harr _ (by omega)).trans e0,(harr _ (by omega)).trans e1,(harr _ (by omega)).trans e2⟩
theorem S0 {l:List ar} (hn:l.Nodup) {d':Array ar} (hp:PermIn 0 l.toArray.size l.toArray d') (hs:SortedIn (ltOf nJ) 0 l.toArray.size d'):d'.toList=cz bI l/\d'.size=l.length:=by
 letI:Inhabited aL:=⟨⟨True,#[]⟩⟩
 obtain⟨h1,_,h3⟩:=hp;have hsz:d'.size=l.length:=by simpa using h1
 have hperm:d'.toList.Perm l:=by
   rw[show d'.extract 0 l.toArray.size=d' by rw[<-h1];simp]at h3;simpa using h3
 have hnd:d'.toList.Nodup:=hperm.nodup_iff.2 hn;refine⟨uw ?_ fun x=>hperm.mem_iff,hsz⟩;rw[Bt];intro i j hi hj hij;simp only[Array.length_toList]at hi hj;have:=hs i j (Au _) hij (by simp;omega);rw[BQ d' j hj,BQ d' i hi]at this;have hlt:bI d'[j] d'[i]=false:=this;have hne:d'[i]≠d'[j]:=by
   have:=Bt.1 hnd i j (by simpa using hi) (by simpa using hj) hij;simpa using this
 simp only[EA];rcases y9 d'[i] d'[j]with h|h|h
 . exact h
 . exact absurd h hne
 . rw[hlt]at h;cases h
theorem RM (w:World) (g off n:Nat) (d:Array ar) (os:Array Obj) {B:Nat} (hg:B<=g) (hB:B<=w.heap.size):Below B w (sortWorldK jO 3 w g off n d os):=by
 refine⟨rfl,rfl,rfl,size_sortWorldK_c jO 3 w g off n d os,fun k hk=>?_⟩;unfold sortWorldK grow putRowK putRow mapBlock Sort.ahead;simp only;rw[Ef (by simp;omega)];rw[Di];rw[Aj (by omega)]
theorem Of {w:World} {base:Nat} {v:Value} {l:List ar} (hn:l.Nodup) (h:w.ownsRow base 35 3 v l.length (fG l)) (hl:l.length<=1000000) (hbase:base<=w.heap.size):
   Calls Tryz.prog 230 #[v, .func (.func 184) #[] #[]] w fun e w'=>e= .returned (.tuple #[])/\cK w' (cz bI l) v/\kA base (cz bI l) v/\Below base w w':=by
 rcases h.2 with⟨rfl,h0⟩|⟨g,cap,cur,rfl,hbg,hg,h1,h2,h3,h4⟩
 . have hl0:l=[]:=AQ.1 h0;subst hl0;refine(PB w).mono ?_;rintro e w' ⟨rfl,hb⟩;exact⟨rfl, .inl ⟨rfl,_,_,rfl⟩, .inl rfl,hb.mono hbase⟩
 . have hgl:=(Ad.1 hg).1;have hs:=PC g 0 cap l.toArray w (MG hg h4) hgl (by simp;omega);rw[show l.toArray.size=l.length by simp]at hs;refine hs.mono ?_;rintro e w' ⟨rfl,d',n,os,hp,hso,rfl⟩;obtain⟨hd,hsz⟩:=S0 hn (d':=d') (by simpa using hp) (by simpa using hso);have hH:=holdsK_sortWorldK_c jO 3 w g 0 l.toArray d' n os (MG hg h4) hgl (by simp[hsz]);have hlen:(cz bI l).length=l.length:=by rw[<-hd];simpa using hsz
   refine⟨rfl,?_, .inr ⟨g,0,_,_,rfl,hbg⟩,RM w g 0 n d' os hbg hbase⟩;rw[<-hlen];refine S7 (by omega) ?_;rw[<-hd];simpa using hH
end Go.Proofs
namespace Go.Proofs
open Go Go.Am Go.RowKit Go.Sy Go.Gm
def uQ:ae:=⟨⟨0,0,0⟩,⟨0,0,0⟩,0,⟨[],[],[]⟩,⟨[],false,false,false,false,0,0,0⟩,[]⟩
def dN:Array Value:=#[.int .i64 0, .int .i64 0, .int .i64 0, .int .i64 0, .int .i64 0, .int .i64 0, .int .i64 0, .string ⟨#[]⟩, .string ⟨#[]⟩, .string ⟨#[]⟩, .string ⟨#[]⟩, .bool false, .bool false, .bool false, .bool false, .int .i64 0, .int .i64 0, .int .i64 0, .slice none 0 0]
theorem HM {w:World} {bk:Nat} {L:List (ar×(Value×ae))} (hm:aC w bk bT qv L) (d:ar):(Instr.lookup 99 (.map (some bk)) (bT d) true).run Tryz.prog w= .ok (.tuple #[((aE L d).map (·.1)).getD (ic uQ (.slice none 0 0)), .bool (aE L d).isSome]) w:=by
 rw[hm.lookup iF Tryz.underlying99 (z:=ic uQ (.slice none 0 0)) (by kernel_rfl) d true]
 cases aE L d<;>rfl
theorem vA {B:Nat} {w0:World} {b:Nat} (hb:B<=b):∀(vs:List Value) (o:Nat) (w:World),Below B w0 w->Below B w0 (w.setCells b o vs)
 |[],_,_,h=>h
 |v::r,o,w,h=>by
  rw[World.setCells];exact vA hb r (o+1) _ (h.setCell hb v)
theorem R6 (W:World):(W.alloc (.cells dN 42)).drew.there W.heap.size 0 19:=fun j hj=>by
 have h:(W.alloc (.cells dN 42)).drew.heap[W.heap.size]? =some (.cells dN 42 (0,0)):=by
   show(W.alloc (.cells dN 42)).heap[W.heap.size]? =_
   rw[mn,An rfl]
 have hs:dN.size=19:=rfl;constructor
 . unfold World.cell?
   simp only[h,Ay,A2,Ao,AK];rw[AX (by omega)];rfl
 . unfold World.frozen?
   simp only[h];simp
theorem PR (W:World) (e:ae) (v:Value) (hv:v.oneCell'=true):∃W4,(ic e v).cells.size=19/\(storeCells ⟨W.heap.size,0,none⟩ (ic e v).cells.toList).run Tryz.prog (W.alloc (.cells dN 42)).drew= .ok () W4/\Below W.heap.size W W4/\
  W4.cell? ⟨W.heap.size,6,none⟩=some (.int .i64 e.kind)/\W4.cell? ⟨W.heap.size,7,none⟩=some (da e.key.name)/\W4.cell? ⟨W.heap.size,8,none⟩=some (da e.key.domain)/\W4.cell? ⟨W.heap.size,9,none⟩=some (da e.key.path):=by
 have hth:=R6 W;have hr:=World.rangeAt_setCells_same (W.alloc (.cells dN 42)).drew W.heap.size 0 [.int .i64 e.dot.dev, .int .i64 e.dot.inc, .int .i64 e.dot.seq, .int .i64 e.bu.wall, .int .i64 e.bu.count, .int .i64 e.bu.dev, .int .i64 e.kind,da e.key.name,da e.key.domain,da e.key.path,
  da e.ab.value, .bool e.ab.aF, .bool e.ab.aV, .bool e.ab.aG, .bool e.ab.persistent, .int .i64 e.ab.aP, .int .i64 e.ab.aq, .int .i64 e.ab.access,v] hth
 refine⟨_,rfl,run_storeCells_cells (P:=Tryz.prog) W.heap.size 0 (ic e v).cells.toList 0 _ (fun j hj=>(by simpa using(hth j hj).1)) (fun j hj=>(by simp)) ?_,vA (Ai _) _ _ _ ((Below.refl W.heap.size W).alloc (Ai _) _).drew,hr 6 _ rfl,hr 7 _ rfl,hr 8 _ rfl,hr 9 _ rfl⟩;intro x hx;rw[zO]at hx;simp only[Value.cells,Ak,BN,Dr]at hx;rcases hx with rfl|rfl|rfl|rfl|rfl|rfl|rfl|rfl|rfl|rfl|rfl|rfl|rfl|rfl|rfl|rfl|rfl|rfl|rfl
 all_goals first|exact hv|rfl
end Go.Proofs
