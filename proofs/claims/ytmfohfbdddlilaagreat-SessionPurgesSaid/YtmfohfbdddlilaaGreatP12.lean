/- Part 12: an evaluator, proved sound, and its use at this seat; no condition. -/
import Derived.IntWalk
import Derived.WalkKit
import Derived.Deep.RegionWith
import Derived.Maps.RangeWalk
import Derived.Shelf.SlIter.Collect
import Derived.OwnWalk
import Derived.Deep.LoopGhost
import Derived.Lib.Walk
import Derived.Lib.SliceRun
import Derived.Test.YtmfohfbdddlilaaGreatP7
import Derived.Test.YtmfohfbdddlilaaGreatP10
import Derived.Test.YtmfohfbdddlilaaGreatP11
set_option linter.unusedSimpArgs false
set_option linter.unusedVariables false
set_option linter.unusedSectionVars false
set_option linter.deprecated false
set_option maxRecDepth 100000
set_option maxHeartbeats 4000000
namespace Go.Proofs
open Go Go.Am Go.RowKit Go.Sy Go.Gm
theorem Hq (a i n:Int) (w:World):Calls Tryz.prog 107 #[.agg #[.int .i64 a, .int .i64 i, .int .i64 n]] w fun e w'=>e= .returned (.bool (fk ⟨a,i,n⟩))/\Below w.heap.size w w':=
 vb (C:=fun I=>vo fk) (fun I=> @NW I) (hfn:=rfl) (hb:=rfl) (args:=[.agg #[.int .i64 a, .int .i64 i, .int .i64 n]]) (fun I=>⟨⟨a,i,n⟩,trivial,⟨rfl,fun j c v hc hv=>by
  match j with
  |0=>cases hc;cases hv;exact FW [a,i,n]
  |_+1=>cases hc⟩,rfl⟩)
theorem UE {a i n:Int} (hd:fk ⟨a,i,n⟩=true):IntKind.i64.wrap (n - 1)=n - 1:=by
 letI:Inhabited aL:=⟨⟨True,#[]⟩⟩
 have h:bV 1 n=true/\bV n 4294967296=true:=by
  unfold fk at hd;simp only[Aa]at hd;exact⟨hd.1.2,hd.2⟩
 rw[fc,fc,Ad,Ad]at h;exact IntWalk.i64_in _ (by omega)
theorem Qc {w:World} {bs bv:Nat} {L:List ((Int×Int)×Int)} (hs:w.cell? ⟨bs,0,none⟩=some (.map (some bv))) (hm:aB w bv eS cJ L) (a i n:Int) (hne:bs≠bv) (hd:fk ⟨a,i,n⟩=true) (hlt:(aE L (a,i)).getD 0=n - 1):
    Calls Tryz.prog 69 #[.pointer (some ⟨bs,0,none⟩), .agg #[.int .i64 a, .int .i64 i, .int .i64 n]] w fun e w'=>e= .returned (.bool true)/\eY (· =bv) w w'/\aB w' bv eS cJ (cw L (a,i) n):=by
  have hc:=fun w=>Hq a i n w
  rw[hd]at hc;have hbv:bv<w.heap.size:=by
    obtain⟨es,clk,h,_⟩:=hm.at_;exact(Ae.1 h).1
  have hbs:bs<w.heap.size:=by
    unfold World.cell? at hs
    cases h:w.heap[bs]? with
    |none=>simp[h]at hs
    |some o=>exact(Ae.1 h).1
  go_enter Tryz.func69,Tryz.ntmps69
  go_wp2_with fail
  have hq:Below w.heap.size w (w.alloc (.cells #[.int .i64 a, .int .i64 i, .int .i64 n] 35)).drew:=((Below.refl w.heap.size w).alloc (Ai _) _).drew;have hsz:(w.alloc (.cells #[.int .i64 a, .int .i64 i, .int .i64 n] 35)).drew.heap.size=w.heap.size+1:=by simp
  have hn0:(w.alloc (.cells #[.int .i64 a, .int .i64 i, .int .i64 n] 35)).drew.cell? ⟨w.heap.size,0,none⟩=some (.int .i64 a):=by simp
  have hn1:(w.alloc (.cells #[.int .i64 a, .int .i64 i, .int .i64 n] 35)).drew.cell? ⟨w.heap.size,1,none⟩=some (.int .i64 i):=by simp
  have hn2:(w.alloc (.cells #[.int .i64 a, .int .i64 i, .int .i64 n] 35)).drew.cell? ⟨w.heap.size,2,none⟩=some (.int .i64 n):=by simp
  have hw:IntKind.i64.wrap (n - 1)=n - 1:=UE hd;have hge:∀{x:World} (_:x.cell? ⟨bs,0,none⟩=some (.map (some bv))) (_:aB x bv eS cJ L),Calls Tryz.prog 67 #[.pointer (some ⟨bs,0,none⟩), .agg #[.int .i64 a, .int .i64 i]] x fun e w'=>e= .returned (.int .i64 (n - 1))/\Below x.heap.size x w':=fun h1 h2=>by
    have:=lY h1 h2 a i;rw[hlt]at this;exact this
  go_region_with (first
   |(go_at_call 107;refine(hc _).mono ?_;rintro e w1 ⟨rfl,hb⟩;have hq1:=hq.trans (hb.mono (by rw[hsz];omega));have hs1:w1.cell? ⟨bs,0,none⟩=some (.map (some bv)):=(hq1.cell hbs).trans hs;have hm1:aB w1 bv eS cJ L:=hm.same (hq1.block bv hbv);have hz1:=hb.size;have hb0:=(hb.cell (p:=⟨w.heap.size,0,none⟩) (by rw[hsz];show w.heap.size<_;omega)).trans hn0;have hb1:=(hb.cell (p:=⟨w.heap.size,1,none⟩) (by rw[hsz];show w.heap.size<_;omega)).trans hn1;have hb2:=(hb.cell (p:=⟨w.heap.size,2,none⟩) (by rw[hsz];show w.heap.size<_;omega)).trans hn2)
   |(go_at_call 67;refine(hge (by assumption) (by assumption)).mono ?_;rintro e w2 ⟨rfl,hc2⟩;have hq2:=hq1.trans (hc2.mono (by rw[hsz]at hz1;omega));have hs2:w2.cell? ⟨bs,0,none⟩=some (.map (some bv)):=(hq2.cell hbs).trans hs;have hm2:aB w2 bv eS cJ L:=hm.same (hq2.block bv hbv);have hc0:=(hc2.cell (p:=⟨w.heap.size,0,none⟩) (by rw[hsz]at hz1;show w.heap.size<_;omega)).trans hb0;have hc1:=(hc2.cell (p:=⟨w.heap.size,1,none⟩) (by rw[hsz]at hz1;show w.heap.size<_;omega)).trans hb1;have hc2':=(hc2.cell (p:=⟨w.heap.size,2,none⟩) (by rw[hsz]at hz1;show w.heap.size<_;omega)).trans hb2)
   |(go_at_call 111;refine(PS hs2 hm2 a i n hne hd (by omega)).mono ?_;rintro e w3 ⟨rfl,hbut,hm3⟩))
  all_goals (go_wp2)
  all_goals (go_ret)
  all_goals (exact⟨rfl,(lW hq2).trans hbut,hm3⟩)
section
def jh (w w':World):Prop:=∀(b:Nat) (arr:Array Value) (e:TypeId) (fz:Nat×Nat),w.heap[b]? =some (.cells arr e fz)->w'.heap[b]? =some (.cells arr e fz)
theorem WJ [Inhabited aL] {w w':World} {p:Nat->Prop} {g:Bool} (hc:jh w w') {s:SV} {v:Value} (h:Rd w p g s v):Rd w' p g s v:=by
 induction h with
 |bool b=>exact .bool b
 |int k n=>exact .int k n
 |str s=>exact .str s
 |bo=>exact .bo
 |wp a=>exact .wp a
 |nils=>exact .nils
 |bF=>exact .bF
 |bL=>exact .bL
 |any v=>exact .any v
 |fn h v=>exact .fn h v
 |cH h v=>exact .cH h v
 |fN h0=>exact .fN h0
 |bX h h0 a c=>exact .bX h h0 a c
 |ar b off cap arr e fz sz u hp hb hs hl hn hcc h1 _ ih=>exact .ar b off cap arr e fz sz u hp (hc _ _ _ _ hb) hs hl hn hcc h1 ih
 |agg h1 _ ih=>exact .agg h1 ih
 |bG h1 _ ih=>exact .bG h1 ih
def cF (w:World) (l:List aj) (v:Value):Prop:=(l=[]/\ ∃a c,v= .slice a 0 c)\/ ∃b off cap arr e fz,v= .slice (some ⟨b,off,none⟩) l.length cap/\w.heap[b]? =some (.cells arr e fz)/\l.length<=cap/\off+l.length*3<=arr.size/\
 ∀i (h:i<l.length),arr[off+i*3]? =some (.int .i64 l[i].dev)/\arr[off+i*3+1]? =some (.int .i64 l[i].inc)/\arr[off+i*3+2]? =some (.int .i64 l[i].seq)
theorem ik [Inhabited aL] {w:World} {p:Nat->Prop} {g:Bool} {k:IntKind} {n:Int} {v:Value} (h:Rd w p g (.int k n) v):v= .int k n:=by cases h;rfl
theorem oQ [Inhabited aL] {w:World} {p:Nat->Prop} {g:Bool} {s:Bs} {v:Value} (h:Rd w p g (.str s) v):v= .string ⟨s.toArray⟩:=by cases h;rfl
theorem qC [Inhabited aL] {w:World} {p:Nat->Prop} {g:Bool} {b:Bool} {v:Value} (h:Rd w p g (.bool b) v):v= .bool b:=by cases h;rfl
theorem uN [Inhabited aL] {w:World} {p:Nat->Prop} {g:Bool} {l:List aj} {v:Value} (h:Rd w p g (cL l) v):cF w l v:=by
 unfold cL at h
 cases h with
 |fN h0=>exact .inl ⟨AN.1 h0,_,_,rfl⟩
 |bX h h0 a c=>exact .inl ⟨AN.1 h0,_,_,rfl⟩
 |ar b off cap arr e fz sz u hp hb hs hl hn hc h1 h2=>
  by_cases h0:l=[]
  . subst h0;exact .inl ⟨rfl,_,_,rfl⟩
  . have hsz:sz=3:=by
     obtain⟨x,l',rfl⟩:=El h0;exact(hn 0 x rfl).symm
    subst hsz;refine .inr ⟨b,off,cap,arr,e,fz,rfl,hb,hc,hl,fun i hi=>?_⟩;have hx:l[i]? =some l[i]:=Af hi;have e0:=h1 i _ 0 _ hx rfl;have e1:=h1 i _ 1 _ hx rfl;have e2:=h1 i _ 2 _ hx rfl;rw[ik (h2 i _ 0 _ hx rfl)]at e0;rw[ik (h2 i _ 1 _ hx rfl)]at e1;rw[ik (h2 i _ 2 _ hx rfl)]at e2;exact⟨e0,e1,e2⟩
theorem uL [Inhabited aL] {w:World} {l:List aj} {v:Value} (h:cF w l v):Rd w (fun _=>True) true (cL l) v:=by
 unfold cL;rcases h with⟨rfl,a,c,rfl⟩|⟨b,off,cap,arr,e,fz,rfl,hb,hc,hl,hi⟩
 . exact .bX rfl rfl a c
 . refine .ar b off cap arr e fz 3 (fun i j=>(arr[off+i*3+j]?).getD (.bool false)) trivial hb (by decide) hl (fun _ _ _=>rfl) hc (fun i x j v hx hv=>?_) (fun i x j v hx hv=>?_)
   all_goals
    have hil:i<l.length:=(Ab.1 hx).1;have hxe:l[i]=x:=(Ab.1 hx).2;obtain⟨e0,e1,e2⟩:=hi i hil;rw[hxe]at e0 e1 e2;have hj:j<3:=(Ab.1 hv).1;match j,hj with
    |0,_=>cases hv;first|exact e0.trans (by rw[Bw,e0];rfl)|(simp only[Bw,e0,AU];exact .int _ _)
    |1,_=>cases hv;first|exact e1.trans (by rw[e1];rfl)|(simp only[e1,AU];exact .int _ _)
    |2,_=>cases hv;first|exact e2.trans (by rw[e2];rfl)|(simp only[e2,AU];exact .int _ _)
theorem cF.cells {w w':World} (hc:jh w w') {l:List aj} {v:Value} (h:cF w l v):cF w' l v:=by
 rcases h with h|⟨b,off,cap,arr,e,fz,h1,h2,h3⟩
 . exact .inl h
 . exact .inr ⟨b,off,cap,arr,e,fz,h1,hc _ _ _ _ h2,h3⟩
abbrev db (s:Bs):Value:= .string ⟨s.toArray⟩
def gS (e:ae) (v:Value):Value:= .agg #[.int .i64 e.dot.dev, .int .i64 e.dot.inc, .int .i64 e.dot.seq, .int .i64 e.bp.wall, .int .i64 e.bp.count, .int .i64 e.bp.dev, .int .i64 e.kind,db e.key.name,db e.key.domain,db e.key.path,
 db e.ab.value, .bool e.ab.aG, .bool e.ab.aV, .bool e.ab.aH, .bool e.ab.persistent, .int .i64 e.ab.aQ, .int .i64 e.ab.aq, .int .i64 e.ab.access,v]
def iX (w:World) (u:Value) (e:ae):Prop:=∃v,u=gS e v/\cF w e.over v
theorem iX.cells {w w':World} (hc:jh w w') {u:Value} {e:ae} (h:iX w u e):iX w' u e:=by
 obtain⟨v,h1,h2⟩:=h;exact⟨v,h1,h2.cells hc⟩
def qT (x:Value×ae):Value:=x.1
def oZ (x:Nat×DL):Value:= .map (some x.1)
structure cT (w:World) (n b bk ba bd bs bv:Nat) (G:bn):Prop where
 c0:w.cell? ⟨b,0,none⟩=some (.map (some bk))
 c1:w.cell? ⟨b,1,none⟩=some (.map (some ba))
 c2:w.cell? ⟨b,2,none⟩=some (.map (some bd))
 c3:w.cell? ⟨b,3,none⟩=some (.pointer (some ⟨bs,0,none⟩))
 cv:w.cell? ⟨bs,0,none⟩=some (.map (some bv))
 iz:aB w bk bQ qT G.kept
 ma:aB w ba dx oZ G.alive
 md:aB w bd bQ cJ G.dead
 mv:aB w bv eS cJ G.vec
 mi:∀x∈G.alive,aB w x.2.1 bQ cJ x.2.2
 nd:(bk::ba::bd::bv::G.alive.map (·.2.1)).Nodup
 low:∀j∈b::bs::bk::ba::bd::bv::G.alive.map (·.2.1),n<=j
 ev:∀x∈G.kept,iX w x.2.1 x.2.2
def eo (bk ba bd bv:Nat) (G:bn) (j:Nat):Prop:=j∈bk::ba::bd::bv::G.alive.map (·.2.1)
def lJ (w:World) (j:Nat):Prop:=∃es clk,w.heap[j]? =some (.map es clk)
section
variable {K V:Type} [DecidableEq K]
theorem _root_.Go.Gm.aB.isMap {w:World} {b:Nat} {enc:K->Value} {encV:V->Value} {L:List (K×V)} (h:aB w b enc encV L):lJ w b:=by
 obtain⟨es,clk,h,_⟩:=h.at_;exact⟨es,clk,h⟩
theorem _root_.Go.Gm.aB.lt {w:World} {b:Nat} {enc:K->Value} {encV:V->Value} {L:List (K×V)} (h:aB w b enc encV L):b<w.heap.size:=by
 obtain⟨es,clk,h,_⟩:=h.at_;exact(Ae.1 h).1
theorem _root_.Go.Gm.aB.repr {w:World} {b:Nat} {enc:K->Value} {encV:V->Value} {L L':List (K×V)} (h:aB w b enc encV L) (hk:L'.map (·.1)=L.map (·.1)) (hv:L'.map (fun x=>(enc x.1,encV x.2))=L.map fun x=>(enc x.1,encV x.2)):aB w b enc encV L':=by
 obtain⟨⟨es,clk,h1,h2,h3⟩,h4⟩:=h;exact⟨⟨es,clk,h1,h2.trans hv.symm,h3⟩,by rw[hk];exact h4⟩
end
theorem iC {w:World} {b o:Nat} {v:Value} (h:w.cell? ⟨b,o,none⟩=some v):b<w.heap.size:=by
 unfold World.cell? at h
 cases e:w.heap[b]? with
 |none=>simp[e]at h
 |some o=>exact(Ae.1 e).1
theorem vV {w:World} {b o:Nat} {v:Value} (h:w.cell? ⟨b,o,none⟩=some v):¬lJ w b:=by
 rintro⟨es,clk,e⟩;unfold World.cell? at h;simp[e]at h
theorem eF {w w':World} {b o:Nat} {v:Value} (h:w.cell? ⟨b,o,none⟩=some v) (e:w'.heap[b]? =w.heap[b]?):w'.cell? ⟨b,o,none⟩=some v:=by
 unfold World.cell? at h⊢;rw[e];exact h
theorem eY.cells {S:Nat->Prop} {w w':World} (h:eY S w w') (hS:∀k,S k->lJ w k):jh w w':=by
 intro b arr e fz hb;rw[h.block b (Ae.1 hb).1 ?_]
 . exact hb
 . intro hs;obtain⟨es,clk,hm⟩:=hS b hs;rw[hb]at hm;cases hm
theorem eu {w w':World} (h:Below w.heap.size w w'):jh w w':=fun b arr e fz hb=>by
 rw[h.block b (Ae.1 hb).1];exact hb
section
variable {w w':World} {n b bk ba bd bs bv:Nat} {G:bn}
theorem cT.maps (h:cT w n b bk ba bd bs bv G):∀k,eo bk ba bd bv G k->lJ w k:=by
 intro k hk;unfold eo at hk;simp only[Aj,Au]at hk;rcases hk with rfl|rfl|rfl|rfl|⟨x,hx,rfl⟩
 . exact Go.Gm.aB.isMap h.iz
 . exact Go.Gm.aB.isMap h.ma
 . exact Go.Gm.aB.isMap h.md
 . exact Go.Gm.aB.isMap h.mv
 . exact Go.Gm.aB.isMap (h.mi x hx)
theorem cT.aX (h:cT w n b bk ba bd bs bv G) (hc:jh w w') (hm:∀k,eo bk ba bd bv G k->w'.heap[k]? =w.heap[k]?):cT w' n b bk ba bd bs bv G:=by
 have cc:∀{b o:Nat} {v:Value},w.cell? ⟨b,o,none⟩=some v->w'.cell? ⟨b,o,none⟩=some v:=by
  intro b o v hv;refine eF hv ?_;unfold World.cell? at hv
  cases e:w.heap[b]? with
  |none=>simp[e]at hv
  |some q=>
   cases q with
   |cells arr t fz=>exact hc _ _ _ _ e
   |_=>simp[e]at hv
 refine⟨cc h.c0,cc h.c1,cc h.c2,cc h.c3,cc h.cv,h.iz.same (hm _ ?_),h.ma.same (hm _ ?_),h.md.same (hm _ ?_),h.mv.same (hm _ ?_),fun x hx=>(h.mi x hx).same (hm _ ?_),h.nd,h.low,fun x hx=>(h.ev x hx).cells hc⟩
 all_goals (unfold eo;simp)
 exact .inr (.inr (.inr (.inr ⟨x.1,x.2.2,hx⟩)))
theorem cT.below (h:cT w n b bk ba bd bs bv G) (hb:Below w.heap.size w w'):cT w' n b bk ba bd bs bv G:=
 h.aX (eu hb) fun k hk=>by
  obtain⟨es,clk,hm⟩:=h.maps k hk;exact hb.block k (Ae.1 hm).1
theorem Jm {j:Nat} {o:Obj} (hj:lJ w j):jh w (World.bc w j o):=by
 intro b arr e fz hb;obtain⟨es,clk,hm⟩:=hj;rw[mO hm,if_neg (fun e=>by subst e;rw[hb]at hm;cases hm)];exact hb
theorem cT.mZ (h:cT w n b bk ba bd bs bv G) {j:Nat} (hj:eo bk ba bd bv G j) {o:Obj} {G':bn}
  (hk:aB (World.bc w j o) bk bQ qT G'.kept) (ha:aB (World.bc w j o) ba dx oZ G'.alive) (hd:aB (World.bc w j o) bd bQ cJ G'.dead) (hv:aB (World.bc w j o) bv eS cJ G'.vec)
  (hi:∀x∈G'.alive,aB (World.bc w j o) x.2.1 bQ cJ x.2.2) (hnd:(bk::ba::bd::bv::G'.alive.map (·.2.1)).Nodup) (hlow:∀x∈G'.alive,n<=x.2.1) (hev:∀x∈G'.kept,iX w x.2.1 x.2.2):cT (World.bc w j o) n b bk ba bd bs bv G':=by
 have hc:=Jm (o:=o) (h.maps j hj);have cc:∀{b o':Nat} {v:Value},w.cell? ⟨b,o',none⟩=some v->(World.bc w j o).cell? ⟨b,o',none⟩=some v:=by
  intro b o' v hcell;refine eF hcell ?_;obtain⟨es,clk,hm⟩:=h.maps j hj;rw[mO hm,if_neg (fun e:b=j=>vV hcell (by rw[e];exact⟨es,clk,hm⟩))]
 refine⟨cc h.c0,cc h.c1,cc h.c2,cc h.c3,cc h.cv,hk,ha,hd,hv,hi,hnd,fun k hk'=>?_,fun x hx=>(hev x hx).cells hc⟩;simp only[Aj,Au]at hk';rcases hk' with rfl|rfl|rfl|rfl|rfl|rfl|⟨x,hx,rfl⟩
 all_goals first|exact hlow x hx|(refine h.low _ ?_;simp)
theorem cT.ne (h:cT w n b bk ba bd bs bv G):bk≠ba/\bk≠bd/\bk≠bv/\ba≠bd/\ba≠bv/\bd≠bv:=by
 have:=h.nd;simp only[BW,Aj,not_or]at this;exact⟨this.1.1,this.1.2.1,this.1.2.2.1,this.2.1.1,this.2.1.2.1,this.2.2.1.1⟩
theorem cT.rS (h:cT w n b bk ba bd bs bv G) {x:aA×(Nat×DL)} (hx:x∈G.alive):x.2.1≠bk/\x.2.1≠ba/\x.2.1≠bd/\x.2.1≠bv:=by
 have:=h.nd;simp only[BW,Aj,not_or,Au,not_exists,not_and]at this;exact⟨this.1.2.2.2 x hx,this.2.1.2.2 x hx,this.2.2.1.2 x hx,this.2.2.2.1 x hx⟩
theorem gp {j i:Nat} {o:Obj} (h:lJ w j) (hne:i≠j):(World.bc w j o).heap[i]? =w.heap[i]? :=by
 obtain⟨es,clk,hm⟩:=h;rw[mO hm,if_neg hne]
end
end
theorem QQ (w:World):Calls Tryz.prog 64 #[] w fun e w'=>e= .returned (.pointer (some ⟨w.heap.size+1,0,none⟩))/\w'=(w.alloc (.map #[] 0)).alloc (.cells #[.map (some w.heap.size)] 149):=by
 have hmm:= @run_makeMap Tryz.prog;go_enter Tryz.func64,Tryz.ntmps64
 go_wp2;go_ret;exact⟨by simp,rfl⟩
theorem mQ (w:World) (o:Obj) (i:Nat):(w.alloc o).heap[i]? =if i=w.heap.size then some o else w.heap[i]? :=by
 show(w.heap.push o)[i]? =_
 rw[FH]
theorem uI (w:World) (arr:Array Value) (e:TypeId) (fz:Nat×Nat) (i o:Nat):(w.alloc (.cells arr e fz)).cell? ⟨i,o,none⟩=if i=w.heap.size then arr[o]? else w.cell? ⟨i,o,none⟩:=by
 unfold World.cell?
 simp only[mQ];by_cases h:i=w.heap.size
 . simp[h]
 . simp[h]
theorem sg {K V:Type} [DecidableEq K] {w:World} {b:Nat} {enc:K->Value} {encV:V->Value} (h:w.heap[b]? =some (.map #[] 0)):aB w b enc encV ([]:List (K×V)):=
 ⟨⟨#[],0,h,by simp[gW],by simp,by simp⟩,by simp⟩
theorem H9 (w:World):Calls Tryz.prog 14 #[] w fun e w'=>∃b bk ba bd bs bv,e= .returned (.pointer (some ⟨b,0,none⟩))/\cT w' w.heap.size b bk ba bd bs bv ⟨[],[],[],[]⟩/\Below w.heap.size w w':=by
 have hmm:= @run_makeMap Tryz.prog;go_enter Tryz.func14,Tryz.ntmps14
 go_wp2_with (go_at_call 64;refine(QQ _).mono ?_;rintro e w1 ⟨rfl,rfl⟩)
 go_ret;refine⟨w.heap.size+5,w.heap.size,w.heap.size+1,w.heap.size+2,w.heap.size+4,w.heap.size+3,rfl,?_,?_⟩
 . refine⟨by simp[uI],by simp[uI],by simp[uI],by simp[uI],by simp[uI],sg (by simp only[mQ,World.size_alloc];repeat (first|rfl|rw[if_neg (by omega)]);try simp;try omega),sg (by simp only[mQ,World.size_alloc];repeat (first|rfl|rw[if_neg (by omega)]);try simp;try omega),sg (by simp only[mQ,World.size_alloc];repeat (first|rfl|rw[if_neg (by omega)]);try simp;try omega),sg (by simp only[mQ,World.size_alloc];repeat (first|rfl|rw[if_neg (by omega)]);try simp;try omega),fun x hx=>(by cases hx),by simp,by simp,fun x hx=>(by cases hx)⟩
 . refine Below.alloc (Below.alloc (Below.alloc (Below.alloc (Below.alloc (Below.alloc (Below.refl _ _) ?_ _) ?_ _) ?_ _) ?_ _) ?_ _) ?_ _
   all_goals (simp;try omega)
theorem Tryz.room {w:World} {n b bk ba bd bs bv:Nat} {G:bn} (h:cT w n b bk ba bd bs bv G) (hl:G.kept.length<=100000):Calls Tryz.prog 68 #[.pointer (some ⟨b,0,none⟩), .int .i64 1] w fun e w'=>e= .returned (.bool (decide (1<=2048 - (G.kept.length:Int))))/\w'=w:=by
 obtain⟨es,clk,hb,hsz⟩:=h.iz.len;have c0:=h.c0;have hlen:(Builtin.len_ #[99] 3 #[.map (some bk)]).run Tryz.prog w= .ok (.int .i64 G.kept.length) w:=by
  rw[run_len_map w 99 3 bk es clk (by simp[Program.mapKeyOf,Program.mapElemOf,Tryz.underlying99]) hb,hsz];rfl
 have hwr:wrap64 (2048 - (G.kept.length:Int))=2048 - (G.kept.length:Int):=by
  exact IntWalk.wrap64_in _ (by omega)
 clear h hb;go_enter Tryz.func68,Tryz.ntmps68
 go_wp2;go_ret;exact⟨rfl,rfl⟩
theorem P5 {w:World} {bd:Nat} {L:DL} (hm:aB w bd bQ cJ L) (d:aj):(Instr.lookup 101 (.map (some bd)) (bQ d) true).run Tryz.prog w= .ok (.tuple #[.int .i64 ((aE L d).getD 0), .bool (aE L d).isSome]) w:=by
 rw[hm.lookup iK Tryz.underlying101 (vt w) d true]
 cases aE L d<;>rfl
theorem Tryz.dead {w:World} {n b bk ba bd bs bv:Nat} {G:bn} (h:cT w n b bk ba bd bs bv G) (d:aj):Calls Tryz.prog 71 #[.pointer (some ⟨b,0,none⟩),bQ d] w fun e w'=>e= .returned (.bool (aE G.dead d).isSome)/\Below w.heap.size w w':=by
 have hb:Below w.heap.size w (w.alloc (.cells #[.int .i64 d.dev, .int .i64 d.inc, .int .i64 d.seq] 35)).drew:=((Below.refl w.heap.size w).alloc (Ai _) _).drew;have h1:=h.below hb;have hlk:=P5 h1.md d;have c2:=h1.c2;unfold bQ at hlk⊢;clear h h1;go_enter Tryz.func71,Tryz.ntmps71
 go_wp2_with fail
 go_region
 go_wp2;go_ret;exact⟨rfl,hb⟩
section
section
variable {K V:Type} [DecidableEq K]
theorem xR {A:List (K×V)} {k:K} {v:V} {x:K×V} (h:x∈cw A k v):x=(k,v)\/(x∈A/\x.1≠k):=by
 unfold cw at h;split at h
 . obtain⟨y,hy,he⟩:=Au.1 h;split at he
   . exact .inl he.symm
   . rename_i hne;subst he;exact .inr ⟨hy,fun e=>hne e.symm⟩
 . rename_i hk;rcases A9.1 h with h|h
   . exact .inr ⟨h,fun e=>hk (Au.2 ⟨x,h,e⟩)⟩
   . exact .inl (BQ.1 h)
theorem uP {β:Type} {A:List (K×V)} {k:K} {u v:V} {f:K×V->β} (hn:(A.map (·.1)).Nodup) (h:aE A k=some u) (hf:f (k,v)=f (k,u)):(cw A k v).map f=A.map f:=by
 have hm:=mN h;unfold cw;rw[if_pos (Au.2 ⟨_,hm,rfl⟩),BJ];refine Dn fun x hx=>?_
 simp only[Function.comp];split
 . rename_i e;obtain⟨a,b⟩:=x;simp only at e;subst e;rw[FU hn hx hm];exact hf
 . rfl
theorem Jd {β:Type} {A:List (K×V)} {k:K} {v:V} {f:K×V->β} (h:aE A k=none):(cw A k v).map f=A.map f++[f (k,v)]:=by
 unfold cw;rw[if_neg (bK.1 h),A1];rfl
theorem Ya (A:List (K×V)) (k:K) (u v:V):cw (cw A k u) k v=cw A k v:=by
 by_cases h:k∈A.map (·.1)
 . have h1:cw A k u=A.map (fun x=>if k=x.1 then(k,u)else x):=if_pos h;have h2:cw A k v=A.map (fun x=>if k=x.1 then(k,v)else x):=if_pos h;have h3:k∈(cw A k u).map (·.1):=by rw[Lr,iO];simp
   have h4:cw (cw A k u) k v=(cw A k u).map (fun x=>if k=x.1 then(k,v)else x):=if_pos h3;rw[h4,h1,h2,BJ];refine Dn fun x _=>?_
   simp only[Function.comp];by_cases e:k=x.1<;>simp[e]
 . have h1:cw A k u=A++[(k,u)]:=if_neg h;have h2:cw A k v=A++[(k,v)]:=if_neg h;have h3:k∈(cw A k u).map (·.1):=by rw[Lr,iO];simp
   have h4:cw (cw A k u) k v=(cw A k u).map (fun x=>if k=x.1 then(k,v)else x):=if_pos h3;rw[h4,h1,h2,A1];congr 1
   . conv=>rhs;rw[<-FD A]
     refine Dn fun x hx=>?_
     rw[if_neg (fun e=>h (Au.2 ⟨x,hx,e.symm⟩))];rfl
   . simp
end
theorem eY.more {S T:Nat->Prop} {a b c:World} (h:eY S a b) (k:eY T b c) (hT:∀i,i<a.heap.size->T i->S i):eY S a c:=
 ⟨k.os.trans h.os,k.tape.trans h.tape,k.output.trans h.output,Aq h.size k.size,fun i hi hS=>(k.block i (AY hi h.size) fun ht=>hS (hT i hi ht)).trans (h.block i hi hS)⟩
section
variable {w w':World} {n b bk ba bd bs bv:Nat} {G:bn}
theorem cT.iJ (h:cT w n b bk ba bd bs bv G) {k:aA} {j:Nat} {L L':DL} (hj:aE G.alive k=some (j,L)) {o:Obj} (hm:aB (World.bc w j o) j bQ cJ L'):cT (World.bc w j o) n b bk ba bd bs bv {G with alive:=cw G.alive k (j,L')}:=by
 have hjm:=mN hj;have hmap:=aB.isMap (h.mi _ hjm);obtain⟨n1,n2,n3,n4⟩:=h.rS hjm;have hblk:(cw G.alive k (j,L')).map (·.2.1)=G.alive.map (·.2.1):=uP h.ma.nd hj rfl;refine h.mZ (j:=j) (by unfold eo;simp only[Aj,Au];exact .inr (.inr (.inr (.inr ⟨_,hjm,rfl⟩)))) (h.iz.same (gp hmap n1.symm)) ((h.ma.same (gp hmap n2.symm)).repr (uP h.ma.nd hj rfl) (uP h.ma.nd hj rfl)) (h.md.same (gp hmap n3.symm)) (h.mv.same (gp hmap n4.symm)) (fun x hx=>?_) ?_ (fun x hx=>?_) h.ev
 . rcases xR hx with rfl|⟨hx,hk⟩
   . exact hm
   . refine(h.mi x hx).same (gp hmap fun e=>?_);have hnd:=h.nd;simp only[BW]at hnd;have hnd:=hnd.2.2.2.2;have:∀{A:List (aA×(Nat×DL))},(A.map (·.2.1)).Nodup->x∈A->(k,(j,L))∈A->x=(k,(j,L)):=by
      intro A;induction A with
      |nil=>intro _ h;cases h
      |cons y A ih=>
       intro hn h1 h2;rw[AR,BW]at hn;rcases Aj.1 h1 with h1|h1<;>rcases Aj.1 h2 with h2|h2
       . rw[h1,h2]
       . exact absurd (Au.2 ⟨_,h2,by rw[<-h1];exact e.symm⟩) hn.1
       . exact absurd (Au.2 ⟨_,h1,by rw[<-h2];exact e⟩) hn.1
       . exact ih hn.2 h1 h2
     have:=this hnd hx hjm;rw[this]at hk;exact hk rfl
 . show(bk::ba::bd::bv::(cw G.alive k (j,L')).map (·.2.1)).Nodup
   rw[hblk];exact h.nd
 . have:x.2.1∈(cw G.alive k (j,L')).map (·.2.1):=Au.2 ⟨x,hx,rfl⟩;rw[hblk]at this;refine h.low _ ?_;simp only[Aj];exact .inr (.inr (.inr (.inr (.inr (.inr this)))))
theorem cT.kA (h:cT w n b bk ba bd bs bv G) {k:aA} {j:Nat} (hn:aE G.alive k=none) {o:Obj} (hj:aB w j bQ cJ ([]:DL)) (hjn:¬eo bk ba bd bv G j) (hlow:n<=j) (hm:aB (World.bc w ba o) ba dx oZ (cw G.alive k (j,[]))):
   cT (World.bc w ba o) n b bk ba bd bs bv {G with alive:=cw G.alive k (j,[])}:=by
 have hmap:=aB.isMap h.ma;obtain⟨n1,n2,n3,n4,n5,n6⟩:=h.ne;have hblk:(cw G.alive k (j,[])).map (·.2.1)=G.alive.map (·.2.1)++[j]:=Jd hn;unfold eo at hjn;simp only[Aj,not_or]at hjn;refine h.mZ (j:=ba) (by unfold eo;simp) (h.iz.same (gp hmap n1)) hm (h.md.same (gp hmap n4.symm)) (h.mv.same (gp hmap n5.symm)) (fun x hx=>?_) ?_ (fun x hx=>?_) h.ev
 . rcases xR hx with rfl|⟨hx,hk⟩
   . exact hj.same (gp hmap hjn.2.1)
   . exact(h.mi x hx).same (gp hmap (h.rS hx).2.1)
 . show(bk::ba::bd::bv::(cw G.alive k (j,[])).map (·.2.1)).Nodup
   rw[hblk];have h1:(bk::ba::bd::bv::(G.alive.map (·.2.1)++[j]))=(bk::ba::bd::bv::G.alive.map (·.2.1))++[j]:=by simp
   rw[h1,ER];refine⟨h.nd,by simp,fun a ha c hc=>?_⟩;rw[BQ]at hc;subst hc;rintro rfl;simp only[Aj]at ha;rcases ha with ha|ha|ha|ha|ha
   . exact hjn.1 ha
   . exact hjn.2.1 ha
   . exact hjn.2.2.1 ha
   . exact hjn.2.2.2.1 ha
   . exact hjn.2.2.2.2 ha
 . rcases xR hx with rfl|⟨hx,hk⟩
   . exact hlow
   . refine h.low _ ?_;simp only[Aj];exact .inr (.inr (.inr (.inr (.inr (.inr (Au.2 ⟨x,hx,rfl⟩))))))
theorem cT.pb (h:cT w n b bk ba bd bs bv G) {D:DL} {o:Obj} (hm:aB (World.bc w bd o) bd bQ cJ D):cT (World.bc w bd o) n b bk ba bd bs bv {G with dead:=D}:=by
 have hmap:=aB.isMap h.md;obtain⟨n1,n2,n3,n4,n5,n6⟩:=h.ne;exact h.mZ (j:=bd) (by unfold eo;simp) (h.iz.same (gp hmap n2)) (h.ma.same (gp hmap n4)) hm (h.mv.same (gp hmap n6.symm)) (fun x hx=>(h.mi x hx).same (gp hmap (h.rS hx).2.2.1)) h.nd (fun x hx=>h.low _ (by simp only[Aj];exact .inr (.inr (.inr (.inr (.inr (.inr (Au.2 ⟨x,hx,rfl⟩)))))))) h.ev
theorem cT.pc (h:cT w n b bk ba bd bs bv G) {d:aj} {x:Value×ae} {o:Obj} (hx:iX w x.1 x.2) (hm:aB (World.bc w bk o) bk bQ qT (cw G.kept d x)):cT (World.bc w bk o) n b bk ba bd bs bv {G with kept:=cw G.kept d x}:=by
 have hmap:=aB.isMap h.iz;obtain⟨n1,n2,n3,n4,n5,n6⟩:=h.ne;refine h.mZ (j:=bk) (by unfold eo;simp) hm (h.ma.same (gp hmap n1.symm)) (h.md.same (gp hmap n2.symm)) (h.mv.same (gp hmap n3.symm)) (fun x hx=>(h.mi x hx).same (gp hmap (h.rS hx).1)) h.nd (fun x hx=>h.low _ (by simp only[Aj];exact .inr (.inr (.inr (.inr (.inr (.inr (Au.2 ⟨x,hx,rfl⟩)))))))) (fun y hy=>?_);rcases xR hy with rfl|⟨hy,_⟩
 . exact hx
 . exact h.ev y hy
theorem cT.kj (h:cT w n b bk ba bd bs bv G) {k:aA} {o:Obj} (hm:aB (World.bc w ba o) ba dx oZ (dD G.alive k)):cT (World.bc w ba o) n b bk ba bd bs bv {G with alive:=dD G.alive k}:=by
 have hmap:=aB.isMap h.ma;obtain⟨n1,n2,n3,n4,n5,n6⟩:=h.ne;have hsub:∀x∈dD G.alive k,x∈G.alive:=fun x hx=>(Ar.1 hx).1
 refine h.mZ (j:=ba) (by unfold eo;simp) (h.iz.same (gp hmap n1)) hm (h.md.same (gp hmap n4.symm)) (h.mv.same (gp hmap n5.symm)) (fun x hx=>(h.mi x (hsub x hx)).same (gp hmap (h.rS (hsub x hx)).2.1)) ?_ (fun x hx=>h.low _ (by simp only[Aj];exact .inr (.inr (.inr (.inr (.inr (.inr (Au.2 ⟨x,hsub x hx,rfl⟩)))))))) h.ev;refine Em ?_ h.nd;exact((((List.filter_sublist.map _).cons₂ _).cons₂ _).cons₂ _).cons₂ _
end
theorem jQ {w:World} {ba:Nat} {A:List (aA×(Nat×DL))} (hm:aB w ba dx oZ A) (k:aA):(Instr.lookup 100 (.map (some ba)) (dx k) false).run Tryz.prog w= .ok (.map ((aE A k).map (·.1))) w:=by
 rw[hm.lookup yR Tryz.underlying100 (z:= .map none) (by kernel_rfl) k false]
 cases aE A k<;>rfl
theorem qw {w:World} {j b o:Nat} {x:Obj} {v:Value} (hj:lJ w j) (h:w.cell? ⟨b,o,none⟩=some v):(World.bc w j x).cell? ⟨b,o,none⟩=some v:=
 eF h (gp hj fun e=>vV h (by rw[e];exact hj))
theorem Cj (e:ae) (v:Value):gS e v= .agg #[.int .i64 e.dot.dev, .int .i64 e.dot.inc, .int .i64 e.dot.seq, .int .i64 e.bp.wall, .int .i64 e.bp.count, .int .i64 e.bp.dev, .int .i64 e.kind,db e.key.name,db e.key.domain,db e.key.path,
 db e.ab.value, .bool e.ab.aG, .bool e.ab.aV, .bool e.ab.aH, .bool e.ab.persistent, .int .i64 e.ab.aQ, .int .i64 e.ab.aq, .int .i64 e.ab.access,v]:=rfl
theorem Pa (b:Nat) (w:World):(binOp BinOp.eql 101 (.map (some b)) (.map none)).run Tryz.prog w= .ok (.bool false) w:=by kernel_rfl
theorem Pj {w:World} {n b bk ba bd bs bv:Nat} {G:bn} (h:cT w n b bk ba bd bs bv G) (e:ae) (v:Value) {j:Nat} {L:DL} (hj:aE G.alive e.key=some (j,L)):
   Calls Tryz.prog 72 #[.pointer (some ⟨b,0,none⟩),gS e v] w fun e' w'=>e'= .returned (.tuple #[])/\eY (eo bk ba bd bv G) w w'/\cT w' n b bk ba bd bs bv {G with alive:=cw G.alive e.key (j,cw L e.dot 1)}:=by
 rw[Cj];obtain⟨W,hW⟩:∃W,(w.alloc (.cells #[.int .i64 e.dot.dev, .int .i64 e.dot.inc, .int .i64 e.dot.seq, .int .i64 e.bp.wall, .int .i64 e.bp.count, .int .i64 e.bp.dev, .int .i64 e.kind,db e.key.name,db e.key.domain,db e.key.path,
   db e.ab.value, .bool e.ab.aG, .bool e.ab.aV, .bool e.ab.aH, .bool e.ab.persistent, .int .i64 e.ab.aQ, .int .i64 e.ab.aq, .int .i64 e.ab.access,v] 42))=W:=⟨_,rfl⟩
 have hb:Below w.heap.size w W:=by rw[<-hW];exact(Below.refl w.heap.size w).alloc (Ai _) _
 have h0:=h.below hb;go_enter Tryz.func72,Tryz.ntmps72
 go_wp2_with fail
 have k7:W.cell? ⟨w.heap.size,7,none⟩=some (db e.key.name):=by rw[<-hW];simp
 have k8:W.cell? ⟨w.heap.size,8,none⟩=some (db e.key.domain):=by rw[<-hW];simp
 have k9:W.cell? ⟨w.heap.size,9,none⟩=some (db e.key.path):=by rw[<-hW];simp
 have d0:W.cell? ⟨w.heap.size,0,none⟩=some (.int .i64 e.dot.dev):=by rw[<-hW];simp
 have d1:W.cell? ⟨w.heap.size,1,none⟩=some (.int .i64 e.dot.inc):=by rw[<-hW];simp
 have d2:W.cell? ⟨w.heap.size,2,none⟩=some (.int .i64 e.dot.seq):=by rw[<-hW];simp
 have h1:=h0.below (Below.refl W.heap.size W).drew;have c1:=h0.c1;have hlk:=jQ h1.ma e.key;rw[hj]at hlk;have hjm:(e.key,(j,L))∈G.alive:=mN hj;have h2:=h1.below (Below.refl W.drew.heap.size W.drew).drew;obtain⟨es,clk,hu,hmu⟩:=(h2.mi _ hjm).update iK Tryz.underlying101 e.dot 1;have hlk2:=jQ h2.ma e.key;rw[hj]at hlk2;have hnil:=fun w=>Pa j w
 rw[show dx e.key= .agg #[db e.key.name,db e.key.domain,db e.key.path]from rfl]at hlk hlk2;unfold bQ cJ at hu;clear h0 h hW;go_region
 go_wp2_with fail
 go_region
 go_wp2;go_end0
 refine⟨rfl,?_,h2.iJ hj hmu⟩;refine(lW (hb.drew.drew)).more (T:=(· =j)) ⟨rfl,rfl,rfl,by simp[World.bc],fun k _ hk=>?_⟩ ?_
 . exact gp (aB.isMap (h2.mi _ hjm)) hk
 . rintro i _ rfl;unfold eo;simp only[Aj,Au];exact .inr (.inr (.inr (.inr ⟨_,hjm,rfl⟩)))
theorem Ph {w:World} {n b bk ba bd bs bv:Nat} {G:bn} (h:cT w n b bk ba bd bs bv G) (hn:n<=w.heap.size) (e:ae) (v:Value) (hj:aE G.alive e.key=none):
  Calls Tryz.prog 72 #[.pointer (some ⟨b,0,none⟩),gS e v] w fun e' w'=>e'= .returned (.tuple #[])/\eY (eo bk ba bd bv G) w w'/\ ∃j,w.heap.size<=j/\cT w' n b bk ba bd bs bv {G with alive:=cw G.alive e.key (j,[(e.dot,1)])}:=by
 rw[Cj];obtain⟨W,hW⟩:∃W,(w.alloc (.cells #[.int .i64 e.dot.dev, .int .i64 e.dot.inc, .int .i64 e.dot.seq, .int .i64 e.bp.wall, .int .i64 e.bp.count, .int .i64 e.bp.dev, .int .i64 e.kind,db e.key.name,db e.key.domain,db e.key.path,
  db e.ab.value, .bool e.ab.aG, .bool e.ab.aV, .bool e.ab.aH, .bool e.ab.persistent, .int .i64 e.ab.aQ, .int .i64 e.ab.aq, .int .i64 e.ab.access,v] 42))=W:=⟨_,rfl⟩
 have hb:Below w.heap.size w W:=by rw[<-hW];exact(Below.refl w.heap.size w).alloc (Ai _) _
 have h0:=h.below hb;have hmm:= @run_makeMap Tryz.prog;go_enter Tryz.func72,Tryz.ntmps72
 go_wp2_with fail
 have k7:W.cell? ⟨w.heap.size,7,none⟩=some (db e.key.name):=by rw[<-hW];simp
 have k8:W.cell? ⟨w.heap.size,8,none⟩=some (db e.key.domain):=by rw[<-hW];simp
 have k9:W.cell? ⟨w.heap.size,9,none⟩=some (db e.key.path):=by rw[<-hW];simp
 have d0:W.cell? ⟨w.heap.size,0,none⟩=some (.int .i64 e.dot.dev):=by rw[<-hW];simp
 have d1:W.cell? ⟨w.heap.size,1,none⟩=some (.int .i64 e.dot.inc):=by rw[<-hW];simp
 have d2:W.cell? ⟨w.heap.size,2,none⟩=some (.int .i64 e.dot.seq):=by rw[<-hW];simp
 have hsz:W.heap.size=w.heap.size+1:=by rw[<-hW];simp
 have h1:=h0.below (Below.refl W.heap.size W).drew;have c1:=h0.c1;have hlk:=jQ h1.ma e.key;rw[hj]at hlk;have hnew:Below W.heap.size W (W.alloc (.map #[] 0)).drew.drew:=((Below.refl W.heap.size W).alloc (Ai _) _).drew.drew;have h2:=h0.below hnew;have hjn:¬eo bk ba bd bv G W.heap.size:=fun hm=>by
  obtain⟨es,clk,hx⟩:=h0.maps _ hm;have:=(Ae.1 hx).1;omega
 have hfr:aB (W.alloc (.map #[] 0)).drew.drew W.heap.size bQ cJ ([]:DL):=sg (by show(W.alloc (.map #[] 0)).heap[W.heap.size]? =_;rw[mQ];simp);obtain⟨es,clk,hu,hmu⟩:=h2.ma.update yR Tryz.underlying100 e.key ((W.heap.size,[]):Nat×DL);have h3:=h2.kA hj hfr hjn (by omega) hmu;have up:∀{o:Nat} {x:Value},W.cell? ⟨w.heap.size,o,none⟩=some x->(W.alloc (.map #[] 0)).cell? ⟨w.heap.size,o,none⟩=some x:=fun hx=>(((Below.refl W.heap.size W).alloc (Ai _) _).cell (by rw[hsz];exact D4 _)).trans hx
 have k7':=up k7;have k8':=up k8;have k9':=up k9;have d0':=up d0;have d1':=up d1;have d2':=up d2;have c1':(W.alloc (.map #[] 0)).cell? ⟨b,1,none⟩=some (.map (some ba)):=h2.c1;rw[hsz]at hu;clear up h0 h hW;rw[show dx e.key= .agg #[db e.key.name,db e.key.domain,db e.key.path]from rfl]at hlk hu;rw[show oZ (w.heap.size+1,[])= .map (some (w.heap.size+1))from rfl]at hu;have hnil:∀w,(binOp BinOp.eql 101 (.map none) (.map none)).run Tryz.prog w= .ok (.bool true) w:=fun w=>by kernel_rfl
 go_region
 go_wp2_with fail
 have hmb:lJ (W.alloc (.map #[] 0)).drew.drew ba:=aB.isMap h2.ma;obtain⟨W3,hW3⟩:∃W3,World.bc (W.alloc (.map #[] 0)).drew.drew ba (.map es clk)=W3:=⟨_,rfl⟩;have up3:∀{o:Nat} {x:Value},(W.alloc (.map #[] 0)).cell? ⟨w.heap.size,o,none⟩=some x->W3.cell? ⟨w.heap.size,o,none⟩=some x:=fun hx=>by rw[<-hW3];exact qw hmb hx
 have k7'':=up3 k7';have k8'':=up3 k8';have k9'':=up3 k9';have d0'':=up3 d0';have d1'':=up3 d1';have d2'':=up3 d2';have hbut:eY (eo bk ba bd bv G) w W3:=by
  refine(lW (hb.trans (hnew.mono hb.size))).more (T:=(· =ba)) ⟨by rw[<-hW3];rfl,by rw[<-hW3];rfl,by rw[<-hW3];rfl,by rw[<-hW3];simp[World.bc],fun k _ hk=>by rw[<-hW3];exact gp hmb hk⟩ ?_;rintro i _ rfl;unfold eo;simp
 rw[hW3]at h3 hu;have c1'':=h3.c1;have h4:=h3.below (Below.refl W3.heap.size W3).drew;have hget:aE (cw G.alive e.key (W.heap.size,[])) e.key=some (W.heap.size,[]):=by rw[iO];simp
 have hlk3:=jQ h4.ma e.key;rw[hget,show dx e.key= .agg #[db e.key.name,db e.key.domain,db e.key.path]from rfl]at hlk3;obtain⟨es2,clk2,hu2,hmu2⟩:=(h4.mi _ (mN hget)).update iK Tryz.underlying101 e.dot 1;rw[show bQ e.dot= .agg #[.int .i64 e.dot.dev, .int .i64 e.dot.inc, .int .i64 e.dot.seq]from rfl,show cJ 1= .int .i64 1 from rfl]at hu2;have hj2:lJ W3 W.heap.size:=aB.isMap (h3.mi _ (mN hget));have h5:=h4.iJ hget hmu2;rw[Ya]at h5;simp only[hsz,A8]at hlk3 hu2;clear h1 h2 h3 h4 hfr hmu hmu2 hget hmb;go_region
 go_wp2_with fail
 go_region
 go_wp2;go_end0
 rw[hsz]at h5 hj2;refine⟨rfl,hbut.more (T:=(· =w.heap.size+1)) ⟨rfl,rfl,rfl,by simp[World.bc],fun k _ hk=>gp (w:=W3.drew) hj2 hk⟩ (fun i hi e=>by subst e;omega),_,FC _,h5⟩
end
end Go.Proofs
namespace Go.Gm
open Go Go.RowKit Go.Maps Go.Proofs Go.ChangeMaps
section
variable {P:Program} {K V:Type} [DecidableEq K]
structure cI (w:World) (r b:Nat) (enc:K->Value) (encV:V->Value) (L ss left:List (K×V)):Prop where
 ex:∃es clk seen,w.heap[b]? =some (.map es clk)/\gW enc encV es.toList L/\(es.toList.map (·.born)).Pairwise (· < ·)/\(∀e∈es.toList,e.born<clk)/\w.heap[r]? =some (.mapIter (some b) clk seen clk)/\gW enc encV (leftOf es seen).toList left
 perm:(ss++left).Perm L
theorem Ri:∀{l:List Nat},l.Pairwise (· < ·)->l.Nodup:=fun h=>h.imp fun h=>Nat.ne_of_lt h
theorem aB.range {w:World} {b:Nat} {enc:K->Value} {encV:V->Value} {L:List (K×V)} (h:aB w b enc encV L) {t T Te:TypeId} (ht:P.underlying t=some (.map T Te)):
  ∃w',(Instr.range t (.map (some b))).run P w= .ok (.pointer (some ⟨w.heap.size,0,none⟩)) w'/\cI w' w.heap.size b enc encV L [] L/\Below w.heap.size w w'/\w'.heap.size=w.heap.size+1:=by
 obtain⟨⟨es,clk,hb,hr,hs,hc⟩,_⟩:=h;have hlt:=(Ae.1 hb).1;refine⟨_,run_range_map w t T Te b es clk ht hb,⟨⟨es,clk,#[],(Below.heap_alloc w _ b hlt).trans hb,hr,hs,hc,by rw[mQ,if_pos rfl],?_⟩,by simp⟩,(Below.refl _ w).alloc (Ai _) _,by simp⟩;have:leftOf es #[]=es:=by simp[leftOf]
 rw[this];exact hr
theorem MV {enc:K->Value} {encV:V->Value}:∀{es:List MapEntry} {L:List (K×V)},gW enc encV es L->∀e∈es,∃M1 x M2 es1 es2,L=M1++x::M2/\es=es1++e::es2/\gW enc encV es1 M1/\gW enc encV es2 M2/\e.key=enc x.1/\e.val=encV x.2
 |[],_,_,e,h=>by cases h
 |a::es,[],h,_,_=>by simp[gW]at h
 |a::es,y::L,h,e,he=>by
  simp only[gW,AR,BS,B5]at h;rcases Aj.1 he with rfl|he
  . exact⟨[],y,L,[],es,rfl,rfl,rfl,h.2,h.1.1,h.1.2⟩
  . obtain⟨M1,x,M2,es1,es2,h1,h2,h3,h4,h5⟩:=MV (h.2:gW enc encV es L) e he;refine⟨y::M1,x,M2,a::es1,es2,by rw[h1];rfl,by rw[h2];rfl,?_,h4,h5⟩;simp only[gW,AR,BS,B5];exact⟨h.1,h3⟩
theorem cI.next {w:World} {r b:Nat} {enc:K->Value} {encV:V->Value} {L ss left:List (K×V)} (h:cI w r b enc encV L ss left) (ty:TypeId):
   (left=[]/\ss.Perm L/\(Instr.next (.pointer (some ⟨r,0,none⟩)) false ty).run P w= .ok (.tuple #[.bool false]) w)\/
   ∃ x left' w',(Instr.next (.pointer (some ⟨r,0,none⟩)) false ty).run P w= .ok (.tuple #[.bool true,enc x.1,encV x.2]) w'/\cI w' r b enc encV L (ss++[x]) left'/\left.length=left'.length+1/\eY (· =r) w w'/\w'.heap.size=w.heap.size/\
     (Instr.entry (.pointer (some ⟨r,0,none⟩))).run P w'= .ok (.tuple #[enc x.1,encV x.2]) w':=by
 obtain⟨⟨es,clk,seen,hb,hr,hs,hc,hi,hl⟩,hp⟩:=h;have hnd:=Ri hs;rcases run_next_at (P:=P) w ty r b clk clk seen es clk hi hb hc (Ai _)with⟨h0,hrun⟩|⟨e,he,w1,hw1,hrun⟩
 . have:left=[]:=by
     have:=Ap List.length hl;simp only[Bf,Array.length_toList,h0]at this;exact AN.1 this.symm
   subst this;exact .inl ⟨rfl,by simpa using hp,hrun⟩
 . obtain⟨M1,x,M2,es1,es2,h1,h2,h3,h4,h5,h6⟩:=MV hl e he;have hi1:w1.heap[r]? =some (.mapIter (some b) clk seen clk):=by rcases hw1 with rfl|rfl<;>exact hi
   have hb1:w1.heap[b]? =some (.map es clk):=by rcases hw1 with rfl|rfl<;>exact hb
   have hrlt:=(Ae.1 hi1).1;have hne:b≠r:=fun hh=>by rw[hh]at hb;rw[hb]at hi;cases hi
   have hget:∀k,(setBlock w1 r (.mapIter (some b) clk (seen.push e.born) clk)).heap[k]? =if k=r then some (.mapIter (some b) clk (seen.push e.born) clk)else w1.heap[k]? :=fun k=>by
     simp only[setBlock,BL];by_cases hk:r=k
     . subst hk;simp[hrlt]
     . rw[if_neg hk,if_neg (Ne.symm hk)]
   have hem:e∈es.toList:=by
     have:=he;unfold leftOf at this;simp only[Ed,Ar]at this;exact this.1
   refine .inr ⟨x,M1++M2,_,by rw[<-h5,<-h6];exact hrun,⟨⟨es,clk,seen.push e.born,by rw[hget,if_neg hne];exact hb1,hr,hs,hc,by rw[hget,if_pos rfl],?_⟩,?_⟩,by rw[h1];simp;omega,⟨?_,?_,?_,?_,fun k _ hk=>?_⟩,?_,by rw[<-h5,<-h6];exact run_entry_at _ r b clk seen es clk e (by rw[hget,if_pos rfl]) (by rw[hget,if_neg hne];exact hb1) hem hnd⟩
   . have hsub:((leftOf es seen).toList.map (·.born)).Nodup:=by
       unfold leftOf;rw[Ed];exact hnd.sublist (List.filter_sublist.map _)
     have hcut:(leftOf es (seen.push e.born)).toList=(leftOf es seen).toList.filter fun y=> !(y.born==e.born):=by
       unfold leftOf;rw[Ed,Ed,BZ];congr 1
       funext y
       rw[Array.contains_push];by_cases hh:y.born=e.born
       . simp[hh]
       . have h2:(y.born==e.born)=false:=by simpa using hh
         have h3:(e.born==y.born)=false:=by simpa using fun e=>hh e.symm
         simp only[h2,h3]
         cases seen.contains y.born<;>rfl
     rw[hcut,h2];rw[h2,A1,AR,ER]at hsub;obtain⟨n1,n2,n3⟩:=hsub;rw[BW]at n2;have f1:es1.filter (fun y=> !(y.born==e.born))=es1:=by
       rw[Bz];intro y hy;have:=n3 y.born (Au.2 ⟨y,hy,rfl⟩) e.born An;simpa using this
     have f2:es2.filter (fun y=> !(y.born==e.born))=es2:=by
       rw[Bz];intro y hy;have:y.born≠e.born:=fun hh=>n2.1 (Au.2 ⟨y,hy,hh⟩)
       simpa using this
     rw[Dq,BG,f1,f2];simp only[Ey,BN,Ak,AB];unfold gW at h3 h4⊢;rw[A1,A1,h3,h4]
   . rw[h1]at hp;refine List.Perm.trans ?_ hp;rw[Dh];refine List.Perm.append_left ss ?_;simp only[DC];exact List.perm_middle.symm
   . rcases hw1 with rfl|rfl<;>rfl
   . rcases hw1 with rfl|rfl<;>rfl
   . rcases hw1 with rfl|rfl<;>rfl
   . rcases hw1 with rfl|rfl<;>simp[setBlock]
   . rw[hget,if_neg hk];rcases hw1 with rfl|rfl<;>rfl
   . rcases hw1 with rfl|rfl<;>simp[setBlock]
section
variable (w:World) {ops:Array Oper} {rest:List Oper} {o:Oper} {a:Act} {Q:Exit->Act->World->Prop}
theorem Rf (hg:o.guard=none) (m:Operand) (t:TypeId) (hop:o.op=Op.range t m) {T Te:TypeId} (ht:P.underlying t=some (.map T Te)) (b:Nat) {enc:K->Value} {encV:V->Value} {L:List (K×V)}
  (hm:a.eval m= .map (some b)) (h:aB w b enc encV L)
  (hK:∀w',cI w' w.heap.size b enc encV L [] L->Below w.heap.size w w'->w'.heap.size=w.heap.size+1->wpList P ops Q rest (a.put o.dst (.pointer (some ⟨w.heap.size,0,none⟩))) w'):wpList P ops Q (o::rest) a w:=by
 refine wpList_plain hg fun K' hK'=>?_
 obtain⟨w',hrun,r1,r2,r3⟩:=h.range (P:=P) ht;unfold Oper.wp;simp[execOp,hop,hm,hrun,Result.andThen];exact hK' _ _ (hK w' r1 r2 r3)
theorem Is (hg:o.guard=none) (it:Operand) (hop:o.op=Op.next it false) (r b:Nat) {enc:K->Value} {encV:V->Value} {L ss left:List (K×V)}
   (hit:a.eval it= .pointer (some ⟨r,0,none⟩)) (h:cI w r b enc encV L ss left)
   (hDone:left=[]->ss.Perm L->wpList P ops Q rest (a.put o.dst (.tuple #[.bool false])) w)
   (hMore:∀x left' w',cI w' r b enc encV L (ss++[x]) left'->left.length=left'.length+1->eY (· =r) w w'->w'.heap.size=w.heap.size->(Instr.entry (.pointer (some ⟨r,0,none⟩))).run P w'= .ok (.tuple #[enc x.1,encV x.2]) w'->
    wpList P ops Q rest (a.put o.dst (.tuple #[.bool true,enc x.1,encV x.2])) w'):wpList P ops Q (o::rest) a w:=by
 refine wpList_plain hg fun K' hK'=>?_
 unfold Oper.wp;rcases h.next (P:=P) o.type with⟨h0,hl,hrun⟩|⟨x,left',w',hrun,h1,h2,h3,h4,h5⟩
 . simp[execOp,hop,hit,hrun,Result.andThen];exact hK' _ _ (hDone h0 hl)
 . simp[execOp,hop,hit,hrun,Result.andThen];exact hK' _ _ (hMore x left' w' h1 h2 h3 h4 h5)
end
end
end Go.Gm
namespace Go.Proofs
open Go Go.Am Go.RowKit Go.Sy Go.Gm Go.Maps Go.Sort
section
section
variable {K V:Type} [DecidableEq K] {F:Fence} {n:Nat} {P:Program} (w:World) {ops:Array Oper} {rest:List Oper} {o:Oper} {a:Act} {Q:Exit->Act->World->Prop}
theorem QX (hg:o.guard=none) (m:Operand) (t:TypeId) (hop:o.op=Op.range t m) {T Te:TypeId} (ht:P.underlying t=some (.map T Te)) (b:Nat) {enc:K->Value} {encV:V->Value} {L:List (K×V)}
  (hm:a.eval m= .map (some b)) (h:aB w b enc encV L)
  (hK:∀w',cI w' w.heap.size b enc encV L [] L->w.grownBy w' none->w'.heap.size=w.heap.size+1->wpListIn F n P ops Q rest (a.put o.dst (.pointer (some ⟨w.heap.size,0,none⟩))) w'):wpListIn F n P ops Q (o::rest) a w:=by
 refine wpListIn_plain hg fun K' hK'=>?_
 obtain⟨w',hrun,r1,r2,r3⟩:=h.range (P:=P) ht;unfold Oper.wpIn;refine⟨by simp[Oper.about,hop],?_⟩;rw[Oper.semAt_plain F _ _ (by rw[hop];intro c hc';cases hc')];simp[execOp,hop,hm,hrun,Result.andThen];exact hK' _ _ (hK w' r1 ⟨r2.os,r2.tape,r2.output,r2.size,fun i hi _=>r2.block i hi⟩ r3)
theorem Q5 (hg:o.guard=none) (it:Operand) (hop:o.op=Op.next it false) (r b:Nat) {enc:K->Value} {encV:V->Value} {L ss left:List (K×V)}
   (hit:a.eval it= .pointer (some ⟨r,0,none⟩)) (h:cI w r b enc encV L ss left)
   (hDone:left=[]->ss.Perm L->wpListIn F n P ops Q rest (a.put o.dst (.tuple #[.bool false])) w)
   (hMore:∀x left' w',cI w' r b enc encV L (ss++[x]) left'->left.length=left'.length+1->w.grownBy w' (some r)->w'.heap.size=w.heap.size->(Instr.entry (.pointer (some ⟨r,0,none⟩))).run P w'= .ok (.tuple #[enc x.1,encV x.2]) w'->
    wpListIn F n P ops Q rest (a.put o.dst (.tuple #[.bool true,enc x.1,encV x.2])) w'):wpListIn F n P ops Q (o::rest) a w:=by
 refine wpListIn_plain hg fun K' hK'=>?_
 unfold Oper.wpIn;refine⟨by simp[Oper.about,hop],?_⟩;rw[Oper.semAt_plain F _ _ (by rw[hop];intro c hc';cases hc')];rcases h.next (P:=P) o.type with⟨h0,hl,hrun⟩|⟨x,left',w',hrun,h1,h2,h3,h4,h5⟩
 . simp[execOp,hop,hit,hrun,Result.andThen];exact hK' _ _ (hDone h0 hl)
 . simp[execOp,hop,hit,hrun,Result.andThen];exact hK' _ _ (hMore x left' w' h1 h2 ⟨h3.os,h3.tape,h3.output,h3.size,fun i hi hne=>h3.block i hi fun e=>hne (by rw[e])⟩ h4 h5)
end
theorem _root_.Go.Gm.cI.jv {K V:Type} [DecidableEq K] {w w':World} {r b:Nat} {enc:K->Value} {encV:V->Value} {L ss left:List (K×V)} (h:cI w r b enc encV L ss left) (hk:KeepsWalks w w'):cI w' r b enc encV L ss left:=by
 obtain⟨⟨es,clk,seen,hb,hr,hs,hc,hi,hl⟩,hp⟩:=h;exact⟨⟨es,clk,seen,hk.same _ _ hb rfl,hr,hs,hc,hk.same _ _ hi rfl,hl⟩,hp⟩
theorem _root_.Go.Gm.cI.isWalk {K V:Type} [DecidableEq K] {w:World} {r b:Nat} {enc:K->Value} {encV:V->Value} {L ss left:List (K×V)} (h:cI w r b enc encV L ss left):∃o:Obj,w.heap[r]? =some o/\o.isWalk=true:=by
 obtain⟨⟨es,clk,seen,hb,hr,hs,hc,hi,hl⟩,hp⟩:=h;exact⟨_,hi,rfl⟩
theorem _root_.Go.Gm.cI.left_eq {K V:Type} [DecidableEq K] {w:World} {r b:Nat} {enc:K->Value} {encV:V->Value} {L ss left:List (K×V)} (h:cI w r b enc encV L ss left):w.rangeLeft b r=left.length:=by
 obtain⟨⟨es,clk,seen,hb,hr,hs,hc,hi,hl⟩,hp⟩:=h;have:=Ap List.length hl;simp only[Bf,Array.length_toList]at this;unfold World.rangeLeft;rw[hb,hi];exact this
theorem P3 (l Bm b n:Nat) (hn:1<=n) (L:DL) (J:List aj->World->Prop)
  (hY:∀pre x W,J pre W->pre.length<L.length->YieldAt Fence.wide (n - 1) Tryz.prog l #[bQ x] W fun e W'=>e= .returned (.bool true)/\J (pre++[x]) W'/\KeepsWalks W W')
  (W:World) (hJ:AbidesFrom W.heap.size J) (hm:W.cell? ⟨Bm,0,none⟩=some (.map (some b))) (hown:aB W b bQ cJ L) (h0:J [] W):
  CallsIn Fence.wide n Tryz.prog 231 #[.func (.yield l) #[] #[], .pointer (some ⟨Bm,0,none⟩)] W fun e W'=>(∃v,e= .returned v)/\ ∃ss:List aj,ss.Perm (L.map (·.1))/\J ss W':=by
 refine callsIn_of_wp Tryz.func231 rfl trivial ?_ rfl;simp only[Tryz.ntmps231,BC,AA,AK,Nat.reduceAdd,Nat.reduceSub,DI,DH,DR,DK,BR,By];gi_wp2_with (first
  |(gi_at_range;refine QX _ rfl _ 101 rfl Tryz.underlying101 b rfl hown ?_;intro w0 hrg0 hg0 hs0)
  |gi_in)
 go_frame
 gi_loopw [3] (fun _ wr=>∃(ss left:DL),cI wr W.heap.size b bQ cJ L ss left/\ss.length+left.length=L.length/\J (ss.map (·.1)) wr/\W.heap.size<wr.heap.size)
  (fun _ wr=>wr.rangeLeft b W.heap.size)
 case atStart=>exact⟨[],L,hrg0,by simp,hJ [] W w0 none h0 hg0 (fun r e=>by cases e),by omega⟩
 case round=>
  obtain⟨ss,left,hrg,hcs,hJs,hbig⟩:=hrel;gi_wp2_with (first
    |(gi_at_next;refine Q5 _ rfl _ rfl W.heap.size b rfl hrg ?_ ?_)
    |gi_in)
  . intro hl0 hperm;gi_wp2
    go_end0
    exact⟨⟨_,rfl⟩,_,hperm.map _,hJs⟩
  . intro d nn left' w2 hrg2 hlt hg2 hs2 hen;have hJ2:J (ss.map (·.1)) w2:=hJ _ wr w2 (some W.heap.size) hJs hg2 (fun r e=>by cases e;exact⟨Ai _,hrg.isWalk⟩);have hba:w2.grownBy (w2.alloc (.cells #[.int .i64 d.dev, .int .i64 d.inc, .int .i64 d.seq] 35)) none:=World.grownBy_alloc w2 _ none;have hJ3:=hJ _ w2 _ none hJ2 hba (fun r e=>by cases e);have hrg3:=hrg2.jv (KeepsWalks.alloc w2 (.cells #[.int .i64 d.dev, .int .i64 d.inc, .int .i64 d.seq] 35));obtain⟨fn,tmps,assign,body,hy,hR⟩:=hY (ss.map (·.1)) d _ hJ3 (by simp;omega);rw[show bQ d= .agg #[.int .i64 d.dev, .int .i64 d.inc, .int .i64 d.seq]from rfl]at hen hy;clear hs2;gi_wp2
    refine hR.mono ?_;rintro e W3 ⟨rfl,hJ4,hk4⟩;gi_wp2
    have hrg4:=hrg3.jv hk4;have hz4:=hk4.size;have hz2:=hg2.size;go_roundw
    case rel=>exact⟨ss++[(d,nn)],left',hrg4,by simp;omega,by simpa using hJ4,by simp at hz4;omega⟩
    case measure=>rw[hrg4.left_eq,hrg.left_eq];omega
theorem O4 (n:Nat) (hn:1<=n) (Bm b:Nat) (L:DL) (w:World) (hBm:Bm<w.heap.size) (hm:w.cell? ⟨Bm,0,none⟩=some (.map (some b))) (hown:aB w b bQ cJ L):
  SeqGives Fence.wide n Tryz.prog 231 #[.pointer (some ⟨Bm,0,none⟩)] bQ (fun ss=>ss.Perm (L.map (·.1))) L.length w:=fun l J W hW hJ hY h0=>
 P3 l Bm b n hn L J hY W hJ ((hW.cell (p:=⟨Bm,0,none⟩) hBm).trans hm) (hown.same (hW.block b (Go.Gm.aB.lt hown))) h0
end
end Go.Proofs
namespace Go.Proofs
open Go Go.Am Go.RowKit Go.Sy Go.Gm
section
section
variable [Inhabited aL]
theorem WT {tab:bB} {w:World} {l:List aj} {v:Value} (h:cF w l v):aT (bT tab w).get (cL l) (cQ w.heap.size v):=by
 rcases h with⟨rfl,a,c,rfl⟩|⟨b,off,cap,arr,e,fz,rfl,hb,hc,hl,hi⟩
 . cases a with
   |none=>
    cases c with
    |zero=>exact .bX rfl (.inl rfl)
    |succ c=>exact .bX rfl (.inr (.inr ⟨_,_,rfl⟩))
   |some a=>rw[xi];exact .bX rfl (.inr (.inr ⟨_,_,rfl⟩))
 . refine xa hb (sz:=3) (by omega) (fun _ _=>rfl) hl rfl hc fun i x j s hx hs=>?_
   have hil:i<l.length:=(Ab.1 hx).1;have hxe:l[i]=x:=(Ab.1 hx).2;obtain⟨e0,e1,e2⟩:=hi i hil;rw[hxe]at e0 e1 e2;have hj:j<3:=(Ab.1 hs).1;match j,hj with
   |0,_=>cases hs;exact⟨_,e0, .int _ _⟩
   |1,_=>cases hs;exact⟨_,e1, .int _ _⟩
   |2,_=>cases hs;exact⟨_,e2, .int _ _⟩
theorem Zc {tab:bB} {w:World} {e:ae} {u:Value} (h:iX w u e):aT (bT tab w).get (.agg e.enc) (dB w.heap.size u):=by
 obtain⟨v,rfl,hd⟩:=h;have h18:=WT (tab:=tab) hd;unfold gS dB;refine .agg rfl fun i c x hc hx=>?_
 have hj:i<19:=(Ab.1 hc).1;match i,hj with
 |0,_|1,_|2,_|3,_|4,_|5,_|6,_|15,_|16,_|17,_=>cases hc;cases hx;exact .int _ _
 |7,_|8,_|9,_|10,_=>cases hc;cases hx;exact .str _
 |11,_|12,_|13,_|14,_=>cases hc;cases hx;exact .bool _
 |18,_=>cases hc;cases hx;exact h18
end
theorem HV {w:World} {e:ae} {u:Value} (h:iX w u e) (hs:lr e):Calls Tryz.prog 65 #[u] w fun e' w'=>e'= .returned (.bool (gm e))/\Below w.heap.size w w':=
 vb (C:=fun I=>fE lr gm) (fun I=> @Lx I) (hfn:=rfl) (hb:=rfl) (args:=[u]) (fun I=>⟨e,hs,⟨rfl,fun j c v hc hv=>by
  match j with
  |0=>cases hc;cases hv;exact @Zc I _ _ _ _ h
  |_+1=>cases hc⟩,rfl⟩)
def fO:List aj->List Value
 |[]=>[]
 |d::l=> .int .i64 d.dev:: .int .i64 d.inc:: .int .i64 d.seq::fO l
theorem zq:∀l,(fO l).length=l.length*3
 |[]=>rfl
 |d::l=>by simp only[fO,AA,zq l];omega
theorem Iv:∀l,∀u∈fO l,u.oneCell'=true
 |[],u,h=>by cases h
 |d::l,u,h=>by
  simp only[fO,Aj]at h;rcases h with rfl|rfl|rfl|h
  . rfl
  . rfl
  . rfl
  . exact Iv l u h
theorem sd:∀(l:List aj) (i:Nat) (h:i<l.length),(fO l)[i*3]? =some (.int .i64 l[i].dev)/\(fO l)[i*3+1]? =some (.int .i64 l[i].inc)/\(fO l)[i*3+2]? =some (.int .i64 l[i].seq)
 |d::l,0,_=>⟨rfl,rfl,rfl⟩
 |d::l,i+1,h=>by
  have:=sd l i (by simpa using h);rw[show(i+1)*3=i*3+1+1+1 by omega];exact this
theorem RT (l:List aj) {j:Nat} {u:Value} (h:(fO l)[j]? =some u):∃i,∃hi:i<l.length,(j=i*3/\u= .int .i64 l[i].dev)\/(j=i*3+1/\u= .int .i64 l[i].inc)\/(j=i*3+2/\u= .int .i64 l[i].seq):=by
 have hj:j<l.length*3:=by rw[<-zq];exact(Ab.1 h).1
 have hi:j / 3<l.length:=by omega
 obtain⟨h0,h1,h2⟩:=sd l (j / 3) hi;refine⟨j / 3,hi,?_⟩;rcases(by omega:j=j / 3*3\/j=j / 3*3+1\/j=j / 3*3+2)with e|e|e
 . rw[e,h0]at h;exact .inl ⟨e,(Dj h).symm⟩
 . rw[e,h1]at h;exact .inr (.inl ⟨e,(Dj h).symm⟩)
 . rw[e,h2]at h;exact .inr (.inr ⟨e,(Dj h).symm⟩)
theorem U5 {w:World} {base:Nat} {l:List aj} {v:Value} (h:w.ownsRow base 35 3 v l.length (fO l)):cF w l v:=by
 rcases h.2 with⟨rfl,h0⟩|⟨g,cap,cur,rfl,hb,hg,h1,h2,h3,h4⟩
 . exact .inl ⟨AN.1 h0,_,_,rfl⟩
 . refine .inr ⟨g,0,cap,cur,35,(0,0),rfl,hg,h1,by omega,fun i hi=>?_⟩;obtain⟨e0,e1,e2⟩:=sd l i hi;have key:∀j,j<l.length*3->cur[0+j]? =(fO l)[j]? :=fun j hj=>by
    rw[<-h4,Bd,if_pos hj,A6,Ax]
   exact⟨(key _ (by omega)).trans e0,(key (i*3+1) (by omega)).trans e1,(key (i*3+2) (by omega)).trans e2⟩
def kM (n:Nat) (l:List aj) (v:Value):Prop:=l=[]\/ ∃b off k c,v= .slice (some ⟨b,off,none⟩) k c/\n<=b
def dG (w:World) (n:Nat) (l:List aj) (v:Value):Prop:=(l=[]/\ ∃a c,v= .slice a 0 c)\/ ∃b cap arr,v= .slice (some ⟨b,0,none⟩) l.length cap/\n<=b/\w.heap[b]? =some (.cells arr 35 (0,0))/\l.length<=cap/\l.length*3<=arr.size/\
 ∀i (h:i<l.length),arr[i*3]? =some (.int .i64 l[i].dev)/\arr[i*3+1]? =some (.int .i64 l[i].inc)/\arr[i*3+2]? =some (.int .i64 l[i].seq)
theorem dG.cL {w:World} {n:Nat} {l:List aj} {v:Value} (h:dG w n l v):cF w l v:=by
 rcases h with h|⟨b,cap,arr,rfl,hb,h1,h2,h3,h4⟩
 . exact .inl h
 . exact .inr ⟨b,0,cap,arr,35,(0,0),rfl,h1,h2,by rw[Ax];exact h3,fun i hi=>by rw[Ax];exact h4 i hi⟩
theorem dG.mono {w:World} {n m:Nat} {l:List aj} {v:Value} (h:dG w n l v) (hm:m<=n):dG w m l v:=by
 rcases h with h|⟨b,cap,arr,rfl,hb,hr⟩
 . exact .inl h
 . exact .inr ⟨b,cap,arr,rfl,Aq hm hb,hr⟩
theorem dG.aX {w w':World} {n:Nat} {l:List aj} {v:Value} (h:dG w n l v) (hs:∀b arr,n<=b->w.heap[b]? =some (.cells arr 35 (0,0))->w'.heap[b]? =w.heap[b]?):dG w' n l v:=by
 rcases h with h|⟨b,cap,arr,rfl,hb,h1,hr⟩
 . exact .inl h
 . exact .inr ⟨b,cap,arr,rfl,hb,(hs b arr hb h1).trans h1,hr⟩
theorem dG.one {w:World} {n:Nat} {l:List aj} {v:Value} (h:dG w n l v):∃a n c,v= .slice a n c:=by
 rcases h with⟨_,a,c,rfl⟩|⟨_,_,_,rfl,_⟩<;>exact⟨_,_,_,rfl⟩
theorem TE {w:World} {base:Nat} {l:List aj} {v:Value} (h:w.ownsRow base 35 3 v l.length (fO l)):dG w base l v:=by
 rcases h.2 with⟨rfl,h0⟩|⟨g,cap,cur,rfl,hb,hg,h1,h2,h3,h4⟩
 . exact .inl ⟨AN.1 h0,_,_,rfl⟩
 . refine .inr ⟨g,cap,cur,rfl,hb,hg,h1,by omega,fun i hi=>?_⟩;obtain⟨e0,e1,e2⟩:=sd l i hi;have key:∀j,j<l.length*3->cur[j]? =(fO l)[j]? :=fun j hj=>by
    rw[<-h4,Bd,if_pos hj,A6]
   exact⟨(key _ (by omega)).trans e0,(key (i*3+1) (by omega)).trans e1,(key (i*3+2) (by omega)).trans e2⟩
theorem Hr:(Tryz.prog.info? 35).map (fun i=>(i.zero,i.size,i.bytes))=some (some (.agg #[.int .i64 0, .int .i64 0, .int .i64 0]),3,24):=by kernel_rfl
theorem OW {w:World} {l:List aj} {v:Value} (h:cF w l v) (hl:l.length<=100000):Calls Tryz.prog 112 #[v] w fun e w'=>∃v',e= .returned v'/\dG w' w.heap.size l v'/\Below w.heap.size w w':=by
 have q40:∀(w:World) (a:Option Addr) (n c n' c':Nat),(binOp .eql 40 (.slice a n c) (.slice none n' c')).run Tryz.prog w= .ok (.bool a.isNone) w:=fun w a n c n' c'=>Lib.run_eql_slice_nil w _ _ a n c n' c' Tryz.underlying40
 obtain⟨i0,hi,hz0,hz1,hz2⟩:∃i0,Tryz.prog.info? 35=some i0/\i0.zero=some (.agg #[.int .i64 0, .int .i64 0, .int .i64 0])/\i0.size=3/\i0.bytes=24:=by
   have h:=Hr
   cases e:Tryz.prog.info? 35 with
   |none=>rw[e]at h;cases h
   |some i=>rw[e]at h;simp only[A8,AX,B5]at h;exact⟨i,rfl,h.1,h.2.1,h.2.2⟩
 have go:∀(p:Addr) (c:Nat),(∀j u,(fO l)[j]? =some u->w.cell? (p.add j)=some u)->Calls Tryz.prog 112 #[.slice (some p) l.length c] w fun e w'=>∃v',e= .returned v'/\dG w' w.heap.size l v'/\Below w.heap.size w w':=by
   intro p c hc;have A:Aside (∀j u,(fO l)[j]? =some u->w.cell? (p.add j)=some u):=hc;clear hc;go_enter Tryz.func112,Tryz.ntmps112
   go_wp2_with (at_builtin;refine wpList_append_own _ rfl _ _ 40 rfl w.heap.size 35 i0 _ 3 24 Tryz.underlying40 hi hz0 hz1 hz2 rfl (by omega) _ _ _ rfl (World.ownsRow_made w #[] 0 (Ai _) (Aw _) (by simp)) p l.length c (fO l) rfl ?qc1 ?qc2 ?qc3 ?qc4 ?qc5 ?qc6 ?_)
   case qc1=>exact zq l
   case qc2=>
     intro j u hj;exact Lib.cell?_alloc_some _ (A.out j u hj)
   case qc3=>exact Iv l
   case qc4=>rw[Ax];unfold maxLen;omega
   case qc5=>rw[Ax];omega
   case qc6=>simp
   intro v' w1 hown hgrow hnil;go_wp2;go_ret;refine⟨v',rfl,TE (by simpa using hown),?_⟩;exact((Below.refl _ w).alloc (Ai _) _).grown hgrow (by simp) (by intro k hk;simp[Value.ownBlock]at hk;omega)
 rcases h with⟨rfl,a,c,rfl⟩|⟨b,off,cap,arr,e,fz,rfl,hb,hc,hl2,hi2⟩
 . cases a with
   | none=>
     clear go;go_enter Tryz.func112,Tryz.ntmps112
     go_wp2;go_ret;exact⟨_,rfl, .inl ⟨rfl,_,_,rfl⟩,Below.refl _ _⟩
   | some a=>
     exact go a c fun j u hj=>by cases hj
 . refine go ⟨b,off,none⟩ cap fun j u hj=>?_
   rw[Addr.add_lit];obtain⟨i,hil,hh⟩:=RT l hj;obtain⟨e0,e1,e2⟩:=hi2 i hil;have cell:∀{j:Nat} {u:Value},arr[j]? =some u->w.cell? ⟨b,j,none⟩=some u:=fun hx=>by
     unfold World.cell?;simp only[hb,Bc,Ak,AB];exact hx
   rcases hh with⟨rfl,rfl⟩|⟨rfl,rfl⟩|⟨rfl,rfl⟩
   . exact cell e0
   . rw[<-Dd];exact cell e1
   . rw[<-Dd];exact cell e2
end
end Go.Proofs
namespace Go.Proofs
open Go Go.Am Go.RowKit Go.Sy Go.Gm Go.Maps Go.Sort
def kV:Code->Option (Code×Code)
 | .rangeFunc _ _ a b=>some (a,b)
 | .seq a b=>match kV a with
  |some x=>some x
  |none=>kV b
 | .block _ c=>kV c
 | .scope c=>kV c
 | .loop c=>kV c
 |_=>none
noncomputable def Hf:Code:=((Tryz.f253.body.bind kV).getD (.skip, .skip)).1
noncomputable def Hg:Code:=((Tryz.f253.body.bind kV).getD (.skip, .skip)).2
noncomputable def mh (fn:FuncId) (sv:Value) (Bs D:Nat) (st:LoopState) (lF:Option Code):Loop:=
 {state:=st,pending:=lF,fn,tmps:=#[.slice none 0 0,sv, .pointer (some ⟨Bs,0,none⟩),undef, .slice none 0 0,undef,sv,undef,undef,undef,undef,undef,undef],params:=#[7],assign:=Hf,body:=Hg,defers:=D}
structure tD (w0:World) (fn:FuncId) (sv:Value) (Bs l D:Nat) (ss:List aj) (W:World):Prop where
 box:∃v,W.heap[Bs]? =some (.cells #[v] 40 (0,0))/\W.ownsRow w0.heap.size 35 3 v ss.length (fO ss)
 L:W.heap[l]? =some (.loop (mh fn sv Bs D .ready none))
 K:W.heap[D]? =some (.deferred (some []))
 below:Below w0.heap.size w0 W
theorem Th (w0:World) (fn:FuncId) (sv:Value) (Bs l D B:Nat) (hB:w0.heap.size<=B):AbidesFrom B (tD w0 fn sv Bs l D):=fun s W W' row h hg hrow=>by
 have hrow':∀r,row=some r->∃o:Obj,W.heap[r]? =some o/\o.isWalk=true:=fun r e=>(hrow r e).2
 obtain⟨v,hv,hr⟩:=h.box;exact⟨⟨v,(grownBy_keeps hg hrow' hv rfl).trans hv,ownsRow_abides_a hr hg hrow'⟩,(grownBy_keeps hg hrow' h.L rfl).trans h.L,(grownBy_keeps hg hrow' h.K rfl).trans h.K,h.below.grown hg h.below.size (fun k e=>Aq hB (hrow k e).1)⟩
theorem Ii (l:List aj) (x:aj):fO (l++[x])=fO l++[.int .i64 x.dev, .int .i64 x.inc, .int .i64 x.seq]:=by
 induction l with
 |nil=>rfl
 |cons d l ih=>simp only[By,fO,ih]
theorem H5:∃i0,Tryz.prog.info? 35=some i0/\i0.zero=some (.agg #[.int .i64 0, .int .i64 0, .int .i64 0])/\i0.size=3/\i0.bytes=24:=by
 have h:=Hr
 cases e:Tryz.prog.info? 35 with
 |none=>rw[e]at h;cases h
 |some i=>rw[e]at h;simp only[A8,AX,B5]at h;exact⟨i,rfl,h.1,h.2.1,h.2.2⟩
theorem OO (m:Nat) (w0:World) (fn:FuncId) (sv:Value) (Bs l D:Nat) (hBl:Bs≠l) (hDl:D≠l) (hDB:D≠Bs) (h0B:w0.heap.size<=Bs) (h0l:w0.heap.size<=l)
  (N:Nat) (hN:N<=1000000) (ss:List aj) (x:aj) (W:World) (h:tD w0 fn sv Bs l D ss W) (hlen:ss.length<N):
  YieldAt Fence.wide m Tryz.prog l #[bQ x] W fun e W'=>e= .returned (.bool true)/\tD w0 fn sv Bs l D (ss++[x]) W'/\KeepsWalks W W':=by
 obtain⟨i0,hi,hz0,hz1,hz2⟩:=H5;obtain⟨v,hv,hrow⟩:=h.box;refine⟨fn,#[.slice none 0 0,sv, .pointer (some ⟨Bs,0,none⟩),undef, .slice none 0 0,undef,sv,bQ x,undef,undef,undef,undef,undef],Hf,Hg,by simpa [mh]using run_yield (P:=Tryz.prog) (args:=#[bQ x]) h.L rfl,roundIn_of_wpIn trivial ?_⟩;have hl:l<W.heap.size:=(Ae.1 h.L).1;have hne:∀cur:Array Value,Obj.cells #[v] 40 (0,0)≠ .cells cur 35 (0,0):=fun cur e=>by
  have:=(Obj.cells.inj e).2.1;exact absurd this (by decide)
 obtain⟨W1,hW1⟩:∃W1,W.alloc (.cells #[.int .i64 x.dev, .int .i64 x.inc, .int .i64 x.seq] 35)=W1:=⟨_,rfl⟩;have hs1:W1.heap.size=W.heap.size+1:=by rw[<-hW1];simp
 have hold1:∀k,k<W.heap.size->W1.heap[k]? =W.heap[k]? :=fun k hk=>by rw[<-hW1];exact Below.heap_alloc _ _ k hk
 have hBlt0:Bs<W.heap.size:=(Ae.1 hv).1;have hDlt0:D<W.heap.size:=(Ae.1 h.K).1;have hv1:W1.heap[Bs]? =some (.cells #[v] 40 (0,0)):=(hold1 Bs hBlt0).trans hv;have hL1:W1.heap[l]? =some (.loop (mh fn sv Bs D .ready none)):=(hold1 l hl).trans h.L;have hK1:W1.heap[D]? =some (.deferred (some [])):=(hold1 D hDlt0).trans h.K;have hrow1:W1.ownsRow w0.heap.size 35 3 v ss.length (fO ss):=by rw[<-hW1];exact hrow.alloc _
 have hb1:Below w0.heap.size w0 W1:=by rw[<-hW1];exact h.below.alloc h.below.size _
 have hk1:KeepsWalks W W1:=by rw[<-hW1];exact KeepsWalks.alloc _ _
 have x0':W1.cell? ⟨W.heap.size,0,none⟩=some (.int .i64 x.dev):=by rw[<-hW1];simp
 have x1':W1.cell? ⟨W.heap.size,1,none⟩=some (.int .i64 x.inc):=by rw[<-hW1];simp
 have x2':W1.cell? ⟨W.heap.size,2,none⟩=some (.int .i64 x.seq):=by rw[<-hW1];simp
 have hbr:=run_beginRound (P:=Tryz.prog) hL1 rfl;obtain⟨W2,hW2⟩:∃W2,W1.putObj l (.loop {mh fn sv Bs D .ready none with state:= .busy})=W2:=⟨_,rfl⟩;rw[hW2]at hbr;have hg2:W1.grownBy W2 (some l):=by rw[<-hW2];exact grownBy_putObj_a _ _ _
 have hk2:KeepsWalks W1 W2:=by rw[<-hW2];exact KeepsWalks.putObj _ hL1 rfl
 have hv2:W2.heap[Bs]? =some (.cells #[v] 40 (0,0)):=by rw[<-hW2];exact(World.putObj_heap_other hBl).trans hv1
 have hK2:W2.heap[D]? =some (.deferred (some [])):=by rw[<-hW2];exact(World.putObj_heap_other hDl).trans hK1
 have hL2:W2.heap[l]? =some (.loop {mh fn sv Bs D .ready none with state:= .busy}):=by rw[<-hW2];exact World.putObj_heap_same (by omega)
 have hrow2:W2.ownsRow w0.heap.size 35 3 v ss.length (fO ss):=hrow1.kept hg2 (ownsRow_ne_a hrow1 hL1 (fun cur e=>by cases e));have hb2:Below w0.heap.size w0 W2:=hb1.grown hg2 hb1.size (fun k e=>by cases e;exact h0l);have hs2:W2.heap.size=W.heap.size+1:=by rw[<-hW2];simp[hs1]
 have hbx:W2.heap[W.heap.size]? =W1.heap[W.heap.size]? :=by rw[<-hW2];exact World.putObj_heap_other (by omega)
 have x0:=eF x0' hbx;have x1:=eF x1' hbx;have x2:=eF x2' hbx;obtain⟨hc2,hf2⟩:=cell_of_box_a hv2;have hBlt:Bs<W2.heap.size:=(Ae.1 hv2).1;have hl2:l<W2.heap.size:=(Ae.1 hL2).1;have hDlt:D<W2.heap.size:=(Ae.1 hK2).1;have ne_of:∀{j:Nat} {o:Obj},W2.heap[j]? =some o->(∀cur,o≠ .cells cur 35 (0,0))->some j≠v.ownBlock:=fun hj hno=>by
  rcases ownsRow_ne_a hrow2 hj hno with e|e
  . rw[e];simp
  . exact fun e'=>e e'.symm
 clear hW2;rw[show bQ x= .agg #[.int .i64 x.dev, .int .i64 x.inc, .int .i64 x.seq]from rfl];conv=>arg 4;whnf
 gi_wp2_with gi_round_op_a
 conv=>arg 4;whnf
 obtain⟨W2b,hW2b⟩:∃W2b,W2.alloc (.cells #[.int .i64 x.dev, .int .i64 x.inc, .int .i64 x.seq] 35)=W2b:=⟨_,rfl⟩;have hrow2b:W2b.ownsRow w0.heap.size 35 3 v ss.length (fO ss):=by rw[<-hW2b];exact hrow2.alloc _
 have hs2b:W2b.heap.size=W2.heap.size+1:=by rw[<-hW2b];simp
 have hold2b:∀k,k<W2.heap.size->W2b.heap[k]? =W2.heap[k]? :=fun k hk=>by rw[<-hW2b];exact Below.heap_alloc _ _ k hk
 have y0:W2b.cell? ⟨W2.heap.size,0,none⟩=some (.int .i64 x.dev):=by rw[<-hW2b];simp
 have y1:W2b.cell? ⟨W2.heap.size,1,none⟩=some (.int .i64 x.inc):=by rw[<-hW2b];simp
 have y2:W2b.cell? ⟨W2.heap.size,2,none⟩=some (.int .i64 x.seq):=by rw[<-hW2b];simp
 rw[hs2]at y0 y1 y2;have hcells:∀j u,([Value.int .i64 x.dev, .int .i64 x.inc, .int .i64 x.seq]:List Value)[j]? =some u->W2b.cell? ((⟨W.heap.size+1,0,none⟩:Addr).add j)=some u:=fun j u hj=>by
  rw[Addr.add_lit];match j with
  |0=>cases hj;exact y0
  |1=>cases hj;exact y1
  |2=>cases hj;exact y2
  |_+3=>cases hj
 have hb2b:Below w0.heap.size w0 W2b:=by rw[<-hW2b];exact hb2.alloc hb2.size _
 have hz2b:w0.heap.size<=W2b.heap.size:=hb2b.size;gi_wp2_with (first
  |(gi_at_builtin;refine wpListIn_append_own _ rfl _ _ 40 rfl w0.heap.size 35 i0 _ 3 24 Tryz.underlying40 hi hz0 hz1 hz2 rfl (by decide) _ _ _ rfl hrow2b ⟨W.heap.size+1,0,none⟩ 1 1 [.int .i64 x.dev, .int .i64 x.inc, .int .i64 x.seq] rfl rfl hcells (by simp[Value.oneCell']) (by unfold maxLen;omega) (by omega) hz2b ?_;intro v' w3 hown' hg3 hnil3;have hg3':W2b.grownBy w3 v.ownBlock:=hg3;have hv3:w3.heap[Bs]? =some (.cells #[v] 40 (0,0)):=(hg3'.block Bs (by omega) (ne_of hv2 hne)).trans ((hold2b Bs hBlt).trans hv2);obtain⟨hc3,hf3⟩:=cell_of_box_a hv3;obtain⟨g',cap',cur',rfl,hbase',hgb',hr1,hr2,hr3,hr4⟩:∃g' cap' cur',v'= .slice (some ⟨g',0,none⟩) (ss.length+1) cap'/\w0.heap.size<=g'/\w3.heap[g']? =some (.cells cur' 35 (0,0))/\ss.length+1<=cap'/\cap'<=maxLen/\cur'.size=cap'*3/\cur'.toList.take ((ss.length+1)*3)=fO ss++[.int .i64 x.dev, .int .i64 x.inc, .int .i64 x.seq]:=hown'.2.resolve_left (fun hh=>absurd hh.2 (by omega));go_frame)
  |gi_round_op_a)
 have hL3:w3.heap[l]? =some (.loop {mh fn sv Bs D .ready none with state:= .busy}):=(hg3'.block l (by omega) (ne_of hL2 (fun cur e=>by cases e))).trans ((hold2b l hl2).trans hL2);have hK3:w3.heap[D]? =some (.deferred (some [])):=(hg3'.block D (by omega) (ne_of hK2 (fun cur e=>by cases e))).trans ((hold2b D hDlt).trans hK2);obtain⟨w4,hw4⟩:∃w4,w3.setCell ⟨Bs,0,none⟩ (.slice (some ⟨g',0,none⟩) (ss.length+1) cap')=w4:=⟨_,rfl⟩;rw[hw4];have hg4:w3.grownBy w4 (some Bs):=by rw[<-hw4];exact grownBy_setCell0_a _ _ _
 have hv4:w4.heap[Bs]? =some (.cells #[.slice (some ⟨g',0,none⟩) (ss.length+1) cap'] 40 (0,0)):=by rw[<-hw4];exact heap_setCell_box_a _ hv3
 have hL4:w4.heap[l]? =some (.loop {mh fn sv Bs D .ready none with state:= .busy}):=(hg4.block l (Ae.1 hL3).1 (fun e=>hBl (by cases e;rfl))).trans hL3;have hK4:w4.heap[D]? =some (.deferred (some [])):=(hg4.block D (Ae.1 hK3).1 (fun e=>hDB (by cases e;rfl))).trans hK3;have hrow4:=hown'.kept hg4 (ownsRow_ne_a hown' hv3 hne);have hl4:l<w4.heap.size:=(Ae.1 hL4).1;have hb3:Below w0.heap.size w0 w3:=hb2b.grown hg3' hz2b (fun k e=>(hrow2b.lt k e).1);have hb4:Below w0.heap.size w0 w4:=hb3.grown hg4 hb3.size (fun k e=>by cases e;exact h0B);have hk2b:KeepsWalks W2 W2b:=by rw[<-hW2b];exact KeepsWalks.alloc _ _
 have hk4:KeepsWalks W w4:=(((hk1.trans hk2).trans hk2b).trans (KeepsWalks.of_grownBy hg3' (ownsRow_not_walk_a hrow2b))).trans (by rw[<-hw4];exact KeepsWalks.setCell _ _ _);clear hw4;refine⟨_,_,run_endRound none hL4,rfl,⟨⟨_,(World.putObj_heap_other hBl).trans hv4,?_⟩,World.putObj_heap_same hl4,(World.putObj_heap_other hDl).trans hK4,hb4.grown (grownBy_putObj_a _ _ _) hb4.size (fun k e=>by cases e;exact h0l)⟩,hk4.trans (KeepsWalks.putObj _ hL4 rfl)⟩;have:=hrow4.kept (grownBy_putObj_a w4 l (.loop {{mh fn sv Bs D .ready none with state:= .busy}with state:=if(none:Option Code).isNone then .ready else .done,pending:=none})) (ownsRow_ne_a hrow4 hL4 (fun cur e=>by cases e));rw[Ii];simpa using this
end Go.Proofs
