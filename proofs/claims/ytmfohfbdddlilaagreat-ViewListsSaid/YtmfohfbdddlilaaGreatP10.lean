/- Part 10: an evaluator, proved sound, and its use at this seat; no condition. -/
import Derived.Deep.RegionHeld3
import Derived.WalkKit
import Derived.Deep.RegionWith
import Derived.Test.YtmfohfbdddlilaaGreatP3
import Derived.Test.YtmfohfbdddlilaaGreatP5
import Derived.Test.YtmfohfbdddlilaaGreatP6
import Derived.Test.YtmfohfbdddlilaaGreatP7
import Derived.Test.YtmfohfbdddlilaaGreatP9
set_option linter.unusedSimpArgs false
set_option linter.unusedVariables false
set_option linter.unusedSectionVars false
set_option linter.deprecated false
set_option maxRecDepth 100000
set_option maxHeartbeats 4000000
namespace Go.Proofs
open Go Go.Am Go.RowKit Go.Sy
section
variable [Inhabited aD]
def Gb (m:bh) (e:af):Bool:=(e.kind==1)&& !decide (e.dot∈m.dead)
def fL (m:bh):List af:=m.kept.filter (Gb m)
def aT (m:bh) (k:ay):List af:=(fL m).filter fun e=>decide (e.key=k)
def iQ:af:=⟨⟨0,0,0⟩,⟨0,0,0⟩,0,xk,⟨[],false,false,false,false,0,0,0⟩,[]⟩
def eu (l:List af):Option af:=l.foldl (fun b e=>match b with|none=>some e|some y=>if mz e.bw y.bw then some y else some e) none
def ew (m:bh) (k:ay):af×Bool:=((eu (aT m k)).getD iQ,(eu (aT m k)).isSome)
def oE (x y:af):Bool:=bF x.key y.key
def iL (out:List af) (w:af):List af:=out.take (eB oE out w)++w::out.drop (eB oE out w)
def iV (m:bh) (l:List af):List af:=l.foldl (fun out x=>if(ew m x.key).1.dot=x.dot then iL out (ew m x.key).1 else out) []
def iu (m:bh):List af:=iV m (fL m)
def ur (m:bh):List aa:=(iu m).map af.item
def uH (m:bh) (k:ay):List ak:=(aT m k).map (·.dot)
theorem Fu {α β:Type} (f:α->β) {l:List α} {x:Nat} (h:x<l.length):(l.take (x+1)).map f=(l.take x).map f++[f l[x]]:=by
 rw[AG h,AR];rfl
theorem zQ {m:bh} (h:lJ m):(fL m).length<=50000:=Ay (Bi _ _) h.kept
theorem FI {m:bh} (h:lJ m) (k:ay):(aT m k).length<=50000:=Ay (Bi _ _) (zQ h)
theorem MG (out:List af) (w:af):(iL out w).length=out.length+1:=by
 unfold iL;have:=xf (less:=oE) out w;simp;omega
theorem C3 (m:bh):∀(l out:List af),(l.foldl (fun out x=>if(ew m x.key).1.dot=x.dot then iL out (ew m x.key).1 else out) out).length<=out.length+l.length
 |[],out=>by simp
 | x::l,out=>by
  have h1:=C3 m l (if(ew m x.key).1.dot=x.dot then iL out (ew m x.key).1 else out);have h2:(if(ew m x.key).1.dot=x.dot then iL out (ew m x.key).1 else out).length<=out.length+1:=by
   split
   . rw[MG];omega
   . omega
  simp only[BL,As];omega
theorem Jc {m:bh} (h:lJ m):(iu m).length<=50000:=by
 have h1:=C3 m (fL m) [];have h2:=zQ h;unfold iu iV;simp only[AE,Ax]at h1;omega
theorem Ht (n:Nat) (h:n<=60000):(Nat.ble (n*96) 16777216&&Nat.ble n 16777216)=true:=by
 rw[Ab,AQ,AQ];omega
theorem Hr (n:Nat) (h:n<=600000):(Nat.ble (n*24) 16777216&&Nat.ble n 16777216)=true:=by
 rw[Ab,AQ,AQ];omega
noncomputable def G1 (f:FuncId):Option aP:=G0 f
theorem LL:∀g C,G1 g=some C->CO g C:=LK
noncomputable def G4 (f:FuncId):Option aP:=G1 f
theorem LM:∀g C,G4 g=some C->CO g C:=LL
theorem wR {l:List af} {x:Nat} (h:x<l.length):eu (l.take (x+1))=some (match eu (l.take x)with|none=>l[x]|some y=>if mz l[x].bw y.bw then y else l[x]):=by
 unfold eu;rw[qO _ _ h];generalize (l.take x).foldl _ none=b
 cases b with
 |none=>rfl
 |some y=>simp only;split<;>rfl
theorem xj {l:List af} {x:Nat} (h0:0<x) (h:x<=l.length):∃y,eu (l.take x)=some y:=by
 obtain⟨k,rfl⟩:∃k,x=k+1:=⟨x - 1,by omega⟩;exact⟨_,wR (by omega)⟩
noncomputable def xY (f:FuncId):Option aP:=G4 f
theorem Cm:∀g C,xY g=some C->CO g C:=LM
end
end Go.Proofs
namespace Go.Proofs
open Go Go.Am Go.RowKit Go.Sy Go.Gm
theorem xe {Fz:Nat->Option AO} {n:Nat} (l:List Int):aF Fz (.agg (l.map i64)) (dm n (.agg (l.map fun z=>Value.int .i64 z).toArray)):=by
 unfold dm;refine .agg (by simp) fun i c v hc hv=>?_
 simp only[Av]at hc hv
 cases h:l[i]? with
 |none=>rw[h]at hc;cases hc
 |some z=>
  rw[h]at hc;simp[h]at hv
  cases hc;rw[<-hv];exact .int _ _
theorem rB {C:Inhabited aD->aP} {f:FuncId} {fn:Func} {body:Code} (hc:∀I:Inhabited aD, @Go.Sy.bO I Tryz.prog Tryz.tab f (C I)) (hfn:Tryz.tab.fns.get f=some fn) (hb:fn.body=some body) {args:List Value} {w:World} {b:Bool}
  (hy:∀I:Inhabited aD,∃y,(C I).pre y/\PL (bK Tryz.tab w).get ((C I).args y) (args.map (dm w.heap.size))/\(C I).res y= .bool b):Calls Tryz.prog f args.toArray w fun e w'=>e= .returned (.bool b)/\Below w.heap.size w w':=by
 letI:Inhabited aD:=⟨⟨True,#[]⟩⟩
 obtain⟨y,h1,h2,h3⟩:=hy inferInstance;refine Calls.mono (pg ch.ok (hc inferInstance) hfn hb h1 h2 (cA.nT rfl _)) ?_;rintro e w' ⟨v,rfl,hv,hbel,_⟩;rw[h3]at hv
 cases hv;exact⟨rfl,hbel⟩
end Go.Proofs
namespace Go.Proofs
open Go Go.Am Go.RowKit Go.Sy Go.Maps Go.Sort Go.Shelf
theorem zo (l:List aa) (i:Nat) (x:aa):bu (l.take i++x::l.drop i)=bu (l.take i)++(cg x++bu (l.drop i)):=by
 rw[pz,show x::l.drop i=[x]++l.drop i from rfl,pz,wO]
theorem qQ {α:Type} {A B:List α} {n:Nat} (h:A.length=n):(A++B).take n=A:=by subst h;exact List.take_left
theorem C4 {α:Type} {A B:List α} {n:Nat} (h:A.length=n):(A++B).drop n=B:=by subst h;exact List.drop_left
theorem JO {C:List Value} {l:List aa} {x:aa} {i:Nat} (hi:i<l.length) (hC:C.take (l.length*11)=bu l) (hlen:(l.length+1)*11<=C.length):(gA (fM C l i) x i).take ((l.length+1)*11)=bu (l.take i++x::l.drop i):=by
 have htl:(bu (l.take i)).length=i*11:=by rw[kn,A7];congr 1;omega
 have hdl:(bu (l.drop i)).length=(l.length - i)*11:=by rw[kn,A9]
 have h0:C.take (i*11)=bu (l.take i):=by
  have h1:=Aq (List.take (i*11)) hC;rw[List.take_take,DU (by omega),<-BS i l,pz,qQ htl]at h1;rw[h1]
 have e1:(fM C l i).take (i*11)=bu (l.take i):=by
  unfold fM;rw[A5,DR (by rw[A7];omega),List.take_take,DU (by omega),h0]
 have e2:(fM C l i).drop (i*11+(cg x).length)=bu (l.drop i)++C.drop ((i+1)*11+(bu (l.drop i)).length):=by
  unfold fM;rw[A5,jz,C4 (by rw[A7];omega)]
 unfold gA;rw[e1,e2,zo,<-A5,A5 (bu (l.take i))];exact qQ (by simp only[Aw,htl,hdl,jz];omega)
theorem JN {R:List Value} {l:List aa} {x:aa} {i:Nat} (hi:i<l.length) (hR:R.take (i*11)=bu (l.take i)) (hlen:(l.length+1)*11<=R.length):(fM (gA R x i) l i).take ((l.length+1)*11)=bu (l.take i++x::l.drop i):=by
 have htl:(bu (l.take i)).length=i*11:=by rw[kn,A7];congr 1;omega
 have hdl:(bu (l.drop i)).length=(l.length - i)*11:=by rw[kn,A9]
 have e1:(gA R x i).take ((i+1)*11)=bu (l.take i)++cg x:=by
  unfold gA;rw[hR];exact qQ (by simp only[Aw,htl,jz];omega)
 unfold fM;rw[e1,zo,A5,A5,<-A5 (cg x),<-A5 (bu (l.take i))];exact qQ (by simp only[Aw,htl,hdl,jz];omega)
theorem tt {C:List Value} {l:List aa} {x:aa} {i:Nat} (hi:i<l.length) (hlen:(l.length+1)*11<=C.length):(fM C l i).length=C.length/\(gA C x i).length=C.length:=by
 have hdl:(bu (l.drop i)).length=(l.length - i)*11:=by rw[kn,A9]
 unfold fM gA;simp only[Aw,A7,A9,hdl,jz];omega
theorem sg {l:List aa} {x:aa} {i vb base:Nat} {v:Value} {w:World} (hi:i<=l.length) (hl:l.length<=10000) (ho:iE w base v l) (hbase:base<=w.heap.size)
   (hg:w.heap[vb]? =some (.cells (cg x).toArray 48 (0,0))) (hvb:v.ownBlock≠some vb):
   Calls Tryz.prog 97 #[v, .int .i64 i, .slice (some ⟨vb,0,none⟩) 1 1] w fun e w'=>∃u,e= .returned u/\iE w' base u (l.take i++x::l.drop i)/\Below base w w':=by
 have hlen:(l.take i++x::l.drop i).length=l.length+1:=by simp;omega
 by_cases hil:i<l.length
 . obtain⟨_,⟨rfl,h0⟩|⟨b,cap,cur,rfl,hbb,hb,hlc,hcm,hcs,htk⟩⟩:=ho
   . omega
   have hne:vb≠b:=fun e=>hvb (by rw[e];rfl)
   by_cases hroom:l.length+1<=cap
   . refine Calls.mono (Pn (x:=x) hil hl hroom hcm hb hcs htk hg hne) ?_;rintro e w' ⟨rfl,rfl⟩;have hC:(l.length+1)*11<=cur.toList.length:=by simp only[BG,hcs];omega
     obtain⟨k1,_⟩:=tt (x:=x) hil hC;obtain⟨_,k2⟩:=tt (C:=fM cur.toList l i) (x:=x) hil (by rw[k1];exact hC);refine⟨_,rfl,?_,below_setRow (below_setRow ((Below.refl _ _).drew) hbb _) hbb _⟩;show World.ownsRow _ base 48 11 _ (l.take i++x::l.drop i).length _
     rw[hlen];refine⟨by rw[kn,hlen], .inr ⟨b,cap,_,rfl,hbb,setRow_heap _ _ _ _ 48 (0,0) (setRow_heap w.drew _ _ _ 48 (0,0) hb),hroom,hcm,?_,?_⟩⟩
     . simp only[A4,k2,k1,BG,hcs]
     . exact JO hil htk hC
   . refine Calls.mono (O0 (x:=x) hil hl (by omega) hlc hb hcs htk hg) ?_;rintro e w' ⟨G,R,rfl,h1,h2,h3,h4,h5,h6⟩;have hC:(l.length+1)*11<=R.length:=by rw[h3];omega
     obtain⟨_,k1⟩:=tt (x:=x) hil hC;obtain⟨k2,_⟩:=tt (C:=gA R x i) (x:=x) hil (by rw[k1];exact hC);refine⟨_,rfl,?_,h6.mono hbase⟩;show World.ownsRow _ base 48 11 _ (l.take i++x::l.drop i).length _
     rw[hlen];refine⟨by rw[kn,hlen], .inr ⟨w.heap.size,G,_,rfl,hbase,h5,h1,h2,?_,?_⟩⟩
     . simp only[A4,k2,k1,h3]
     . exact JN hil h4 hC
 . have hie:i=l.length:=by omega
   subst hie;obtain⟨i0,hi,hz0,hz1,hz2⟩:=info_parts mW;have hnc:∀i u,(cg x)[i]? =some u->w.cell? ((⟨vb,0,none⟩:Addr).add i)=some u:=fun i u hi=>by
     rw[Addr.add_lit];exact kh hg i u hi
   obtain⟨a,cap,rfl⟩:∃a cap,v= .slice a l.length cap:=by
     rcases ho.2 with⟨rfl,h0⟩|⟨b,cap,cur,rfl,_⟩
     . exact⟨none,0,by rw[h0]⟩
     . exact⟨_,cap,rfl⟩
   rw[Bz,List.drop_length];go_enter Tryz.func97,Tryz.ntmps97
   go_wp2_with (at_builtin;go_loud (refine wpList_append_own _ rfl _ _ 52 rfl base 48 i0 _ 11 96 Tryz.underlying52 hi hz0 hz1 hz2 rfl (by decide) _ _ _ rfl ho ⟨vb,0,none⟩ 1 1 (cg x) rfl rfl hnc (pQ x) (by unfold maxLen;omega) (by omega) hbase ?_;intro v3 w4 hown4 hg4 hnil))
   all_goals
     go_ret;refine⟨_,rfl,?_,(Below.refl _ _).grown hg4 hbase (fun k e=>(ho.lt k e).1)⟩;show World.ownsRow w4 _ 48 11 v3 _ (bu (l++[x]))
     rw[pz,wO,Aw];exact hown4
def gh (l:List aa) (k:ay):Nat:=(l.takeWhile fun y=>bF y.key k).length
theorem F7 {m:List aa} {k:Nat} {key:ay} (h1:∀j (hj:j<m.length),j<k->bF m[j].key key=true) (h2:k<=m.length) (h3:∀hk:k<m.length,bF m[k].key key=false):gh m key=k:=by
 letI:Inhabited aD:=⟨⟨True,#[]⟩⟩
 rcases Nat.lt_trichotomy (gh m key) k with h|h|h
 . have hlt:gh m key<m.length:=by omega
   have e1:=h1 (gh m key) hlt h;have e2:bF m[gh m key].key key=false:=uT (p:=fun y:aa=>bF y.key key) (l:=m) hlt;rw[e1]at e2;cases e2
 . exact h
 . obtain⟨hk,e1⟩:=uo (p:=fun y:aa=>bF y.key key) (l:=m) (j:=k) h;have e2:=h3 hk;rw[e2]at e1;cases e1
theorem Qh {a b:ay} (w:World):Calls Tryz.prog 96 #[.agg #[aV a.name,aV a.domain,aV a.path], .agg #[aV b.name,aV b.domain,aV b.path]] w fun e w'=>e= .returned (.bool (bF a b))/\Below w.heap.size w w':=
 rB (C:=fun _=>oG) (hfn:=rfl) (hb:=rfl) (args:=[.agg #[aV a.name,aV a.domain,aV a.path], .agg #[aV b.name,aV b.domain,aV b.path]]) (fun I=> @Gt I) (fun I=>⟨(a,b),trivial,PL.cons (Gv a) (PL.cons (Gv b) PL.nil),rfl⟩)
theorem kk {w w':World} (hb:Below w.heap.size w.drew w') {b o:Nat} {v:Value} (h:w.cell? ⟨b,o,none⟩=some v):w'.cell? ⟨b,o,none⟩=some v:=by
 have hlt:b<w.heap.size:=block_lt_of_cell h;rw[World.cell?_of_block (w:=w) (hb.block b hlt)];exact h
theorem rm {w:World} {x:aa} {Y:World} (h:w.alloc (.cells (cg x).toArray 48)=Y):Y.heap[w.heap.size]? =some (.cells (cg x).toArray 48 (0,0)):=by rw[<-h];exact World.alloc_heap_new _ _
theorem PK {l:List aa} {x:aa} {v:Value} {w:World} (hl:l.length<=9999) (h:fJ w v l):
  Calls Tryz.prog 48 #[v, .agg (cg x).toArray] w fun e w'=>∃u,e= .returned u/\iE w' w.heap.size u ((eO l x.key).take (gh (eO l x.key) x.key)++x::(eO l x.key).drop (gh (eO l x.key) x.key))/\Below w.heap.size w w':=by
 obtain⟨W,hW⟩:∃W,w.alloc (.cells (cg x).toArray 48)=W:=⟨_,rfl⟩;have hbW:Below w.heap.size w W:=by rw[<-hW];exact(Below.refl _ _).alloc (Af _) _
 have hsW:w.heap.size<W.heap.size:=by rw[<-hW];simp
 have hWn:W.heap[w.heap.size]? =some (.cells (cg x).toArray 48 (0,0)):=by rw[<-hW];exact World.alloc_heap_new _ _
 obtain⟨d0,d1,d2,d3,d4,d5,d6,d7,d8,d9,d10⟩:=iM (kh hWn);simp only[Ax]at d1 d2 d3 d4 d5 d6 d7 d8 d9 d10;have hwo:=Pu (k:=x.key) (by omega) (h.below hbW);unfold cg at hW⊢;go_enter Tryz.func48,Tryz.ntmps48
 go_wp2_with (go_at_call 50;refine hwo.mono ?_;rintro e w1 ⟨u,rfl,hu,hb1⟩)
 have hml:(eO l x.key).length<=9999:=Ay (Bi _ _) hl;obtain⟨m,hm⟩:∃m,eO l x.key=m:=⟨_,rfl⟩;rw[hm]at hu hml;have hB1:Below w.heap.size w w1:=hbW.trans (hb1.mono (Nat.le_of_lt hsW));have hu:iE w1 W.heap.size u m:=hu;have hW1:=(hb1.block _ hsW).trans hWn;obtain⟨a,cap,rfl⟩:∃a cap,u= .slice a m.length cap:=by
  rcases hu.2 with⟨rfl,h0⟩|⟨b,cap,cur,rfl,_⟩
  . exact⟨none,0,by rw[h0]⟩
  . exact⟨_,cap,rfl⟩
 clear d0 d1 d2 d3 d4 d5 d6 d7 d8 d9 d10 hW hwo;go_loopw [6] (fun i wr=>∃k:Nat,k<=m.length/\i= .int .i64 k/\(∀j (hj:j<m.length),j<k->bF m[j].key x.key=true)/\Below w1.heap.size w1 wr)
  (fun i _=>m.length - (intOf i).toNat)
 case atStart=>exact⟨0,Bf _,rfl,fun _ _ h=>(Bw _ h).elim,Below.refl _ _⟩
 case round=>
  obtain⟨k,hkm,rfl,hall,hbw⟩:=hrel;have hown:=pD hu hbw;have hWr:=(hbw.block _ (AJ hsW hb1.size)).trans hW1;obtain⟨d0,d1,d2,d3,d4,d5,d6,d7,d8,d9,d10⟩:=iM (kh hWr);simp only[Ax]at d1 d2 d3 d4 d5 d6 d7 d8 d9 d10;by_cases hlt:k<m.length
  . obtain⟨g,rfl,hgc⟩:∃g,a=some ⟨g,0,none⟩/\ ∀j v,(bu m)[j]? =some v->wr.cell? ⟨g,j,none⟩=some v:=by
     rcases hown.2 with⟨h1,h0⟩|⟨b,cap',cur,h1,h2,h3,h4,h5,h6,h7⟩
     . omega
     . cases h1;refine⟨b,rfl,fun j v hj=>?_⟩;simp only[World.cell?,h3,A1,Ai,Az];rw[<-h7,AU,AW]at hj;split at hj
       . exact hj
       . cases hj
    have hmk:m[k]? =some m[k]:=Ae hlt;have c0:=hgc (k*11+0) _ (by rw[mC hmk (by omega)];rfl);have c1:=hgc (k*11+1) _ (by rw[mC hmk (by omega)];rfl);have c2:=hgc (k*11+2) _ (by rw[mC hmk (by omega)];rfl);rw[Bu]at c0;have hless:=Qh (a:=m[k].key) (b:=x.key) wr.drew;have hk0:(0:Int)<=(k:Int):=by omega
    have hk1:(k:Int)<(m.length:Int):=by omega
    cases hd:bF m[k].key x.key with
    |false=>
     rw[hd]at hless;go_wp2;go_region_held3 (fun w'=>w'.cell? ⟨w.heap.size,0,none⟩=some (aV x.key.name)/\w'.cell? ⟨w.heap.size,1,none⟩=some (aV x.key.domain)/\w'.cell? ⟨w.heap.size,2,none⟩=some (aV x.key.path)/\w'.cell? ⟨g,k*11,none⟩=some (aV m[k].key.name)/\w'.cell? ⟨g,k*11+1,none⟩=some (aV m[k].key.domain)/\w'.cell? ⟨g,k*11+2,none⟩=some (aV m[k].key.path)) (simp[*]) (first|(go_at_call 96;refine hless.mono ?_;rintro e w3 ⟨rfl,hb3⟩;have z0:=kk hb3 d0;have z1:=kk hb3 d1;have z2:=kk hb3 d2;have y0:=kk hb3 c0;have y1:=kk hb3 c1;have y2:=kk hb3 c2))
     have hX3:=(hb3.block _ (AJ (AJ hsW hb1.size) hbw.size)).trans hWr;obtain⟨z0,z1,z2,z3,z4,z5,z6,z7,z8,z9,z10⟩:=iM (kh hX3);simp only[Ax]at z1 z2 z3 z4 z5 z6 z7 z8 z9 z10;have hbw3:Below w1.heap.size w1 w3:=(hbw.drew).trans (hb3.mono hbw.size);have hk3:Below W.heap.size W w3:=hb1.trans (hbw3.mono hb1.size);have ho3:=pD hu hbw3;obtain⟨Y,hY,ho5,hk5,_⟩:=yb (x:=x) ho3 hk3;have hYn:=rm hY;have hfin:=sg (i:=k) hkm (by omega) ho5 hk5.size hYn (fun e=>EP _ (ho3.lt _ e).2);unfold cg at hY;go_wp2_with (go_at_call 97;go_loud (refine hfin.mono ?_;rintro e w6 ⟨u6,rfl,hu6,hb6⟩))
     go_ret;rw[hm,F7 hall hkm (fun _=>hd)];exact⟨_,rfl,ownsRow_base_a hu6 (Nat.le_of_lt hsW),hbW.trans ((hk5.trans (hb6.mono (Af _))).mono (Nat.le_of_lt hsW))⟩
    |true=>
     rw[hd]at hless;go_wp2;go_region_held3 (fun w'=>w'.cell? ⟨w.heap.size,0,none⟩=some (aV x.key.name)/\w'.cell? ⟨w.heap.size,1,none⟩=some (aV x.key.domain)/\w'.cell? ⟨w.heap.size,2,none⟩=some (aV x.key.path)/\w'.cell? ⟨g,k*11,none⟩=some (aV m[k].key.name)/\w'.cell? ⟨g,k*11+1,none⟩=some (aV m[k].key.domain)/\w'.cell? ⟨g,k*11+2,none⟩=some (aV m[k].key.path)) (simp[*]) (first|(go_at_call 96;refine hless.mono ?_;rintro e w3 ⟨rfl,hb3⟩;have z0:=kk hb3 d0;have z1:=kk hb3 d1;have z2:=kk hb3 d2;have y0:=kk hb3 c0;have y1:=kk hb3 c1;have y2:=kk hb3 c2))
     go_wp2;go_roundw
     case rel=>exact⟨k+1,by omega,by go_num,fun j hj hjk=>by
       by_cases e:j=k
       . subst e;exact hd
       . exact hall j hj (by omega),(hbw.drew).trans (hb3.mono hbw.size)⟩
     case measure=>simp[intOf];omega
  . obtain rfl:k=m.length:=by omega
    have hk1:¬((m.length:Int)<(m.length:Int)):=by omega
    go_wp2;go_region
    have hk3:Below W.heap.size W wr:=hb1.trans (hbw.mono hb1.size);obtain⟨Y,hY,ho5,hk5,_⟩:=yb (x:=x) hown hk3;have hYn:=rm hY;have hfin:=sg (i:=m.length) hkm (by omega) (pD ho5 (Below.drew (Below.refl _ _))) hk5.size (show Y.drew.heap[_]? =_ from hYn) (fun e=>EP _ (hown.lt _ e).2);unfold cg at hY;go_wp2_with (go_at_call 97;go_loud (refine hfin.mono ?_;rintro e w6 ⟨u6,rfl,hu6,hb6⟩))
    go_ret;rw[hm,F7 hall hkm (fun h=>absurd h hlt)];exact⟨_,rfl,ownsRow_base_a hu6 (Nat.le_of_lt hsW),hbW.trans ((hk5.drew.trans (hb6.mono (Af _))).mono (Nat.le_of_lt hsW))⟩
end Go.Proofs
namespace Go.Proofs
open Go Go.Am Go.RowKit Go.Sy
def rE:Nat->Code->Code
 |0,c=>c
 |n+1, .seq _ b=>rE n b
 |_,c=>c
def xM:aP:={Y:=Unit,pre:=fun _=>True,args:=fun _=>[],res:=fun _=> .bool true}
theorem y7 {P:Program} {f:FuncId} {fn:Func} {l:List Item} {R:Ending->World->Prop} {a:Act} {w:World} {v:Value} (hr:(results fn a.tmps).run P w= .ok v w) (hd:a.defers=[]) (hR:R (.returned v) w):wU P f fn l R .ret a w:=⟨hd,v,hr,hR⟩
theorem eE.mono {P:Program} {f:FuncId} {l:List Item} {a:Act} {w:World} {R R':Ending->World->Prop} (h:eE P f l a w R) (hr:∀e w',R e w'->R' e w'):eE P f l a w R':=fun cs=>by
 obtain⟨e,w',fr,h1,h2⟩:=h cs;exact⟨e,w',fr,hr _ _ h1,h2⟩
theorem OG [Inhabited aD] (hdr:¬(default:aD).dr) {f:FuncId} (ha:∀w,Calls Tryz.prog f #[] w fun e w'=>e= .returned (.bool true)/\Below w.heap.size w w'):CO f xM:=j8 ch.ok (by
 rintro y - w args hold ⟨h1,h2⟩;match args,h1 with
 |[],_=>
 refine(ha w).mono ?_;rintro e w' ⟨rfl,hb⟩;exact⟨_,rfl, .inr (.bool true),hb,fun h=>(hdr h).elim⟩)
end Go.Proofs
namespace Go.Proofs
open Go Go.Am Go.RowKit Go.Sy Go.Gm
section
section
variable {K V:Type} [DecidableEq K]
theorem bc {L:List (K×V)} {k:K}:ar L k=none↔k∉L.map (·.1):=by
 unfold ar;rw[EW,List.find?_eq_none];constructor
 . rintro h hm;obtain⟨x,hx,rfl⟩:=Ar.1 hm;exact h x hx (by simp)
 . rintro h x hx he;exact h (Ar.2 ⟨x,hx,(BA he).symm⟩)
theorem kR {L:List (K×V)} {k:K} {v:V} (h:ar L k=some v):(k,v)∈L:=by
 unfold ar at h;obtain⟨x,hx,rfl⟩:=Ap.1 h;have h1:=List.find?_some hx;have h2:=EL hx;have:k=x.1:=BA h1;subst this;exact h2
theorem xd {k:K} {u v:V}:∀{L:List (K×V)},(L.map (·.1)).Nodup->(k,u)∈L->(k,v)∈L->u=v
 |[],_,h,_=>by cases h
 |y::L,hn,h1,h2=>by
  rw[AF,Dg]at hn;rcases Ag.1 h1 with h1|h1<;>rcases Ag.1 h2 with h2|h2
  . rw[<-h1,BV]at h2;exact h2.2.symm
  . exact absurd (Ar.2 ⟨_,h2,by rw[<-h1]⟩) hn.1
  . exact absurd (Ar.2 ⟨_,h1,by rw[<-h2]⟩) hn.1
  . exact xd hn.2 h1 h2
theorem wM {L:List (K×V)} {k:K} {v:V} (hn:(L.map (·.1)).Nodup):ar L k=some v↔(k,v)∈L:=by
 refine⟨kR,fun h=>?_⟩
 cases e:ar L k with
 |none=>exact absurd (Ar.2 ⟨(k,v),h,rfl⟩) (bc.1 e)
 |some u=>rw[xd hn (kR e) h]
theorem lM (k:K):ar ([]:List (K×V)) k=none:=rfl
theorem qI (x:K×V) (L:List (K×V)) (k:K):ar (x::L) k=if k=x.1 then some x.2 else ar L k:=by
 unfold ar;rw[Dy];by_cases h:k=x.1<;>simp[h]
theorem IH (L M:List (K×V)) (k:K):ar (L++M) k=(ar L k).or (ar M k):=by
 unfold ar;rw[DE]
 cases List.find? (fun x:K×V=>decide (k=x.1)) L<;>simp
theorem gx (L:List (K×V)) (k k':K) (v:V):ar (bH L k v) k'=if k'=k then some v else ar L k':=by
 have key:∀L:List (K×V),ar (L.map fun x=>if k=x.1 then(k,v)else x) k'=if k'=k then(if k∈L.map (·.1)then some v else none)else ar L k':=by
   intro L;induction L with
   |nil=>simp[lM]
   | cons x L ih=>
     rw[AF,qI,qI,ih,AF];by_cases h1:k=x.1
     . by_cases h2:k'=k
       . rw[if_pos h1];simp only[h2,if_true];rw[if_pos (by rw[h1];exact An)]
       . have h3:¬k'=x.1:=fun e=>h2 (e.trans h1.symm)
         rw[if_pos h1];simp only[if_neg h2,if_neg h3]
     . by_cases h2:k'=k
       . rw[if_neg h1];have h3:¬k'=x.1:=fun e=>h1 (h2.symm.trans e)
         simp only[if_pos h2,if_neg h3,Ag,h1,false_or]
       . rw[if_neg h1];simp only[if_neg h2]
 unfold bH;split
 . rename_i hm;rw[key,if_pos hm]
 . rename_i hm;rw[IH,qI,lM];by_cases h2:k'=k
   . rw[if_pos h2,if_pos h2,h2,bc.2 hm];rfl
   . rw[if_neg h2,if_neg h2];cases ar L k'<;>rfl
theorem wL (L:List (K×V)) (k k':K):ar (cB L k) k'=if k'=k then none else ar L k':=by
 unfold cB ar;rw[List.find?_filter];by_cases h:k'=k
 . rw[if_pos h,EW,List.find?_eq_none];intro x hx;simp[h]
 . rw[if_neg h];congr 2
   funext x
   by_cases e:k'=x.1
   . have:¬k=x.1:=fun e2=>h (e.trans e2.symm)
     simp[e,this]
   . simp[e]
theorem IX {L:List (K×V)} {k:K} (h:ar L k=none) (v:V):(bH L k v).length=L.length+1:=by
 unfold bH;rw[if_neg (bc.1 h)];simp
theorem Fx {L:List (K×V)} {k:K}:k∈L.map (·.1)↔(ar L k).isSome=true:=by
 rw[EK,ne_eq,bc,Decidable.not_not]
end
abbrev DL:=List (ak×Int)
structure aY where
 kept:List (ak×(Value×af))
 alive:List (ay×(Nat×DL))
 dead:DL
 vec:List ((Int×Int)×Int)
def nu (A:List (ay×(Nat×DL))) (nb:Nat) (k:ay) (d:ak):List (ay×(Nat×DL)):=
 match ar A k with
 |none=>bH A k (nb,[(d,1)])
 |some x=>bH A k (x.1,bH x.2 d 1)
def lX (A:List (ay×(Nat×DL))) (k:ay) (d:ak):List (ay×(Nat×DL)):=
 match ar A k with
 |none=>A
 |some x=>if cB x.2 d=[]then cB A k else bH A k (x.1,cB x.2 d)
def iP (G:aY) (d:ak):aY:={G with dead:=bH G.dead d 1,alive:=match ar G.kept d with
 |some x=>if x.2.kind=1 then lX G.alive x.2.key d else G.alive
 |none=>G.alive}
def fD (G:aY) (e:af) (v:Value):aY:={G with vec:=bH G.vec (e.dot.dev,e.dot.inc) e.dot.seq,kept:=bH G.kept e.dot (v,e)}
def gk (G:aY) (e:af) (nb:Nat):aY:=if e.kind=1/\ar G.dead e.dot=none then{G with alive:=nu G.alive nb e.key e.dot}else G
def jq (G:aY) (l:List ak):aY:=l.foldl iP G
def fm (A:List (ay×(Nat×DL))) (k:ay) (d:ak):Prop:=∃x,ar A k=some x/\(ar x.2 d).isSome=true
def qg (A:List (ay×(Nat×DL))):Prop:=∀k x,ar A k=some x->x.2≠[]
theorem KC {A:List (ay×(Nat×DL))} {nb:Nat} {k k':ay} {d d':ak}:fm (nu A nb k d) k' d'↔fm A k' d'\/(k'=k/\d'=d):=by
 unfold fm nu
 cases e:ar A k with
 |none=>
  simp only[gx];by_cases h:k'=k
  . subst h;by_cases h2:d'=d
    . subst h2;simp[e,lM,qI]
    . simp[e,lM,qI,h2]
  . simp[h]
 |some x=>
  simp only[gx];by_cases h:k'=k
  . subst h;by_cases h2:d'=d
    . subst h2;simp[gx]
    . simp[e,gx,h2]
  . simp[h]
theorem OJ {K V:Type} [DecidableEq K] (L:List (K×V)) (k:K) (v:V):bH L k v≠[]:=by
 intro e;have:=gx L k k v;rw[e,lM]at this;simp at this
theorem Kx {A:List (ay×(Nat×DL))} {nb:Nat} {k:ay} {d:ak} (h:qg A):qg (nu A nb k d):=by
 intro k' x hx;unfold nu at hx;split at hx
 . rw[gx]at hx;split at hx
   . cases hx;simp
   . exact h k' x hx
 . rw[gx]at hx;split at hx
   . cases hx;exact OJ _ _ _
   . exact h k' x hx
theorem KB {A:List (ay×(Nat×DL))} {k k':ay} {d d':ak}:fm (lX A k d) k' d'↔fm A k' d'/\ ¬(k'=k/\d'=d):=by
 unfold fm lX
 cases e:ar A k with
 |none=>
  simp only;by_cases h:k'=k
  . subst h;simp[e]
  . simp[h]
 |some x=>
  have hdel:=wL x.2 d d';simp only;split
  . rename_i hnil;rw[wL];by_cases h:k'=k
    . subst h;simp only[if_true,e];rw[hnil]at hdel;by_cases h2:d'=d
      . simp[h2]
      . rw[if_neg h2]at hdel;simp[h2,<-hdel,lM]
    . simp[h]
  . rw[gx];by_cases h:k'=k
    . subst h;simp only[if_true,e];by_cases h2:d'=d
      . subst h2;simp[hdel]
      . rw[if_neg h2]at hdel;simp[h2,hdel]
    . simp[h]
theorem Kw {A:List (ay×(Nat×DL))} {k:ay} {d:ak} (h:qg A):qg (lX A k d):=by
 intro k' x hx;unfold lX at hx;split at hx
 . exact h k' x hx
 . split at hx
   . rw[wL]at hx;split at hx
     . cases hx
     . exact h k' x hx
   . rename_i hne;rw[gx]at hx;split at hx
     . cases hx;exact hne
     . exact h k' x hx
structure kE (kept:List (ak×(Value×af))) (dead:ak->Prop) (A:List (ay×(Nat×DL))):Prop where
 al:∀k d,fm A k d↔∃x,ar kept d=some x/\x.2.kind=1/\x.2.key=k/\ ¬dead d
 full:qg A
theorem kE.kill {G:aY} {d:ak} (h:kE G.kept (fun x=>(ar G.dead x).isSome=true) G.alive):kE (iP G d).kept (fun x=>(ar (iP G d).dead x).isSome=true) (iP G d).alive:=by
 have hdead:∀x,(ar (iP G d).dead x).isSome=true↔(ar G.dead x).isSome=true\/x=d:=fun x=>by
   show(ar (bH G.dead d 1) x).isSome=true↔_
   rw[gx];by_cases e:x=d<;>simp[e]
 refine⟨fun k d'=>?_,?_⟩
 . show fm (match ar G.kept d with|some x=>if x.2.kind=1 then lX G.alive x.2.key d else G.alive|none=>G.alive) k d'↔∃x,ar G.kept d'=some x/\_
   simp only[hdead]
   cases e:ar G.kept d with
   | none=>
     simp only[h.al];constructor
     . rintro⟨x,h1,h2,h3,h4⟩;exact⟨x,h1,h2,h3,fun hh=>hh.elim h4 fun e2=>by subst e2;rw[e]at h1;cases h1⟩
     . rintro⟨x,h1,h2,h3,h4⟩;exact⟨x,h1,h2,h3,fun hh=>h4 (.inl hh)⟩
   | some y=>
     simp only;split
     . rename_i hk;rw[KB,h.al];constructor
       . rintro⟨⟨x,h1,h2,h3,h4⟩,h5⟩;exact⟨x,h1,h2,h3,fun hh=>hh.elim h4 fun e2=>by subst e2;rw[e]at h1;cases h1;exact h5 ⟨h3.symm,rfl⟩⟩
       . rintro⟨x,h1,h2,h3,h4⟩;exact⟨⟨x,h1,h2,h3,fun hh=>h4 (.inl hh)⟩,fun hh=>h4 (.inr hh.2)⟩
     . rename_i hk;rw[h.al];constructor
       . rintro⟨x,h1,h2,h3,h4⟩;exact⟨x,h1,h2,h3,fun hh=>hh.elim h4 fun e2=>by subst e2;rw[e]at h1;cases h1;exact hk h2⟩
       . rintro⟨x,h1,h2,h3,h4⟩;exact⟨x,h1,h2,h3,fun hh=>h4 (.inl hh)⟩
 . show qg (match ar G.kept d with|some x=>if x.2.kind=1 then lX G.alive x.2.key d else G.alive|none=>G.alive)
   split
   . split
     . exact Kw h.full
     . exact h.full
   . exact h.full
theorem kE.qw {l:List ak} {G:aY} (h:kE G.kept (fun x=>(ar G.dead x).isSome=true) G.alive):kE (jq G l).kept (fun x=>(ar (jq G l).dead x).isSome=true) (jq G l).alive:=by
 induction l generalizing G with
 |nil=>exact h
 |cons d l ih=>exact ih h.kill
theorem J5 (l:List ak) (G:aY):(jq G l).kept=G.kept/\(jq G l).vec=G.vec:=by
 induction l generalizing G with
 |nil=>exact⟨rfl,rfl⟩
 |cons d l ih=>exact ih (iP G d)
theorem J4 (l:List ak) (G:aY) (x:ak):(ar (jq G l).dead x).isSome=true↔(ar G.dead x).isSome=true\/x∈l:=by
 induction l generalizing G with
 |nil=>simp[jq]
 | cons d l ih=>
  have h:=ih (iP G d);have hd:(ar (iP G d).dead x).isSome=true↔(ar G.dead x).isSome=true\/x=d:=by
   show(ar (bH G.dead d 1) x).isSome=true↔_
   rw[gx];by_cases e:x=d<;>simp[e]
  show(ar (jq (iP G d) l).dead x).isSome=true↔_
  rw[h,hd,Ag,or_assoc]
def mE (L:List ((Int×Int)×Int)) (a i:Int):Int:=(ar L (a,i)).getD 0
structure cq (G:aY) (m:bh):Prop where
 vec:∀a i,mE G.vec a i=getM m.ctx a i
 kept:∀e:af,e∈m.kept↔∃v,ar G.kept e.dot=some (v,e)
 keys:∀d x,ar G.kept d=some x->x.2.dot=d
 len:G.kept.length=m.kept.length
 sorted:m.kept.Pairwise fun x y=>cM x.dot y.dot=true
 ctx:∀e∈m.kept,fj m.ctx e.dot=true
 dead:∀d,(ar G.dead d).isSome=true↔d∈m.dead
 u4:kE G.kept (fun x=>(ar G.dead x).isSome=true) G.alive
theorem cq.start:cq ⟨[],[],[],[]⟩ kW:=by
 refine⟨fun _ _=>rfl,fun e=>?_,fun d x h=>(by cases h),rfl,List.Pairwise.nil,fun e h=>(by cases h),fun d=>?_,⟨fun k d=>?_,fun k x h=>(by cases h)⟩⟩
 . simp[kW,lM]
 . simp[kW,lM]
 . simp[fm,lM]
theorem dA {x:ak} {a i:Int}:gD x a i=true↔x.dev=a/\x.inc=i:=by
 unfold gD;simp
theorem GA {a i n a' i':Int} (h:¬(a'=a/\i'=i)):∀(l:List ak) (s:List ak×Bool),(l.foldl (fH a i n) s).1.find? (fun x=>gD x a' i')=(s.1.find? fun x=>gD x a' i').or (l.find? fun x=>gD x a' i')
 |[],s=>by simp
 |x::l,s=>by
  have hn:gD ⟨a,i,n⟩ a' i'=false:=AY.2 fun e=>h (by have:=dA.1 e;exact⟨this.1.symm,this.2.symm⟩)
  rw[BL,GA h l,Dy];have hx:gD x a i=true->gD x a' i'=false:=fun e=>AY.2 fun e2=>h (by have h1:=dA.1 e;have h2:=dA.1 e2;exact⟨h2.1.symm.trans h1.1,h2.2.symm.trans h1.2⟩)
  unfold fH
  cases e1:(!s.2&& !rq x a i)<;>cases e2:gD x a i<;>simp only[Bd,AN,DE,Dy,Ej,hn,EB]
  . cases e3:gD x a' i'<;>simp
  . rw[hx e2]
  . cases e3:gD x a' i'<;>simp
  . rw[hx e2]
theorem Gz {a i n:Int}:∀(l:List ak) (s:List ak×Bool),(s.1.find? fun x=>gD x a i)=(if s.2=true then some ⟨a,i,n⟩else none)->((l.foldl (fH a i n) s).1.find? fun x=>gD x a i)=if(l.foldl (fH a i n) s).2=true then some ⟨a,i,n⟩else none
 |[],s,h=>h
 |x::l,s,h=>by
  rw[BL];refine Gz l _ ?_;have hn:gD ⟨a,i,n⟩ a i=true:=dA.2 ⟨rfl,rfl⟩;unfold fH
  cases e0:s.2<;>cases e1:rq x a i<;>cases e2:gD x a i<;>simp only[e0,Ai,Az,if_true]at h<;>simp only[Ds,BX,DP,Ek,BH,BZ,Bd,AN,e0,if_true,Az,Ai,DE,h,Dy,hn,e2,Ej,EC,Option.some_or,EB]
theorem CW (l:List ak) (a i n:Int):gP l a i n=bif (l.foldl (fH a i n) ([],false)).2 then(l.foldl (fH a i n) ([],false)).1 else(l.foldl (fH a i n) ([],false)).1++[⟨a,i,n⟩]:=rfl
theorem Fk (l:List ak) (a i n a' i':Int):getM (gP l a i n) a' i'=if a'=a/\i'=i then n else getM l a' i':=by
 have hn:gD ⟨a,i,n⟩ a i=true:=dA.2 ⟨rfl,rfl⟩;split
 . rename_i h;obtain⟨rfl,rfl⟩:=h;have h1:=Gz (a:=a') (i:=i') (n:=n) l ([],false) (by simp);unfold getM;rw[CW]
   cases e:(l.foldl (fH a' i' n) ([],false)).2
   . rw[e]at h1;simp only[AN,DE,h1,Ai,Az,EC,Dy,hn]
   . rw[e]at h1;simp only[Bd,h1,if_true]
 . rename_i h;have h1:=GA (n:=n) h l ([],false);have hn2:gD ⟨a,i,n⟩ a' i'=false:=AY.2 fun e=>h (by have:=dA.1 e;exact⟨this.1.symm,this.2.symm⟩)
   unfold getM;rw[CW];simp only[Ej,EC]at h1
   cases e:(l.foldl (fH a i n) ([],false)).2
   . simp only[AN,DE,h1,Dy,hn2,Ej,EB]
   . simp only[Bd,h1]
section
variable {α:Type} {less:α->α->Bool}
theorem Mr (l:List α) (e:α):l.take (eB less l e)=l.takeWhile fun x=>less x e:=by
 unfold eB;conv=>lhs;rw[<-DH (p:=fun x=>less x e) (l:=l)]
 rw[List.take_left'];simp
theorem Ls (l:List α) (e:α):l.drop (eB less l e)=l.dropWhile fun x=>less x e:=by
 unfold eB;conv=>lhs;arg 2;rw[<-DH (p:=fun x=>less x e) (l:=l)]
 rw[List.drop_left'];simp
theorem vQ (htr:∀x y z,less x y=true->less y z=true->less x z=true) {e:α}:∀{l:List α},l.Pairwise (fun x y=>less x y=true)->(∀x∈l,less x e=true\/less e x=true)->(l.take (eB less l e)++e::l.drop (eB less l e)).Pairwise fun x y=>less x y=true:=by
 intro l hl ht;rw[Mr,Ls];induction l with
 |nil=>simp
 |cons x l ih=>
  rw[Bv]at hl;rw[Bk,Db];by_cases h:less x e=true
  . simp only[h,if_true,Bg,Bv];refine⟨fun y hy=>?_,ih hl.2 fun y hy=>ht y (Al _ hy)⟩;rcases Bc.1 hy with hy|hy
    . exact hl.1 y (List.takeWhile_subset _ hy)
    . rcases Ag.1 hy with rfl|hy
      . exact h
      . exact hl.1 y (List.dropWhile_subset _ hy)
  . simp only[h,Az,BJ,Bv,Ai];have h1:less e x=true:=(ht x An).resolve_left h;refine⟨fun y hy=>?_,hl⟩;rcases Ag.1 hy with rfl|hy
    . exact h1
    . exact htr _ _ _ h1 (hl.1 y hy)
theorem wT (l:List α) (e x:α):x∈l.take (eB less l e)++e::l.drop (eB less l e)↔x∈l\/x=e:=by
 conv=>rhs;lhs;rw[<-BS (eB less l e) l]
 simp only[Bc,Ag];constructor
 . rintro(h|h|h)
   . exact .inl (.inl h)
   . exact .inr h
   . exact .inl (.inr h)
 . rintro((h|h)|h)
   . exact .inl h
   . exact .inr (.inr h)
   . exact .inr (.inl h)
theorem MQ [DecidableEq α] (l:List α) (e x:α):x∈fZ less l e↔x∈l\/x=e:=by
 unfold fZ;split
 . rename_i h;refine⟨.inl,fun hh=>hh.elim id fun hx=>?_⟩;subst hx;exact BC h
 . exact wT l e x
theorem Km [DecidableEq α] (l a:List α) (x:α):x∈l.foldl (fZ less) a↔x∈a\/x∈l:=by
 induction l generalizing a with
 |nil=>simp
 |cons y l ih=>rw[BL,ih,MQ,Ag,or_assoc]
theorem pC [DecidableEq α] (l:List α) (x:α):x∈eI less l↔x∈l:=by
 unfold eI;rw[Km];simp
end
variable [Inhabited aD]
theorem cq.none {G:aY} {m:bh} (h:cq G m) {e:af} (hh:fj m.ctx e.dot=false):ar G.kept e.dot=none:=by
 cases he:ar G.kept e.dot with
 |none=>rfl
 |some x=>
  have h1:=h.keys _ _ he;have h2:=(h.kept x.2).2 ⟨x.1,by rw[h1,he]⟩;have h3:=h.ctx _ h2;rw[h1,hh]at h3;cases h3
def oA (G:aY) (e:af) (v:Value) (nb:Nat):aY:=jq (gk (fD G e v) e nb) e.over
theorem zO (G:aY) (e:af) (nb:Nat):(gk G e nb).kept=G.kept/\(gk G e nb).vec=G.vec/\(gk G e nb).dead=G.dead:=by
 unfold gk;split<;>exact⟨rfl,rfl,rfl⟩
theorem kE.take {G:aY} {e:af} {v:Value} {nb:Nat} (h:kE G.kept (fun x=>(ar G.dead x).isSome=true) G.alive) (hn:ar G.kept e.dot=none):
   kE (gk (fD G e v) e nb).kept (fun x=>(ar (gk (fD G e v) e nb).dead x).isSome=true) (gk (fD G e v) e nb).alive:=by
 obtain⟨k1,k2,k3⟩:=zO (fD G e v) e nb;rw[k1,k3];have hk:∀d,ar (fD G e v).kept d=if d=e.dot then some (v,e)else ar G.kept d:=fun d=>gx _ _ _ _
 have hno:∀k,¬fm G.alive k e.dot:=fun k hh=>by
   obtain⟨x,hx,_⟩:=(h.al k e.dot).1 hh;rw[hn]at hx;cases hx
 show kE _ (fun x=>(ar G.dead x).isSome=true) _
 unfold gk;split
 . rename_i hc;have hd:¬(ar G.dead e.dot).isSome=true:=by
     have:=hc.2;rw[show(fD G e v).dead=G.dead from rfl]at this;rw[this];simp
   refine⟨fun k d=>?_,Kx h.full⟩;show fm (nu G.alive nb e.key e.dot) k d↔_
   rw[KC,hk];by_cases hd2:d=e.dot
   . subst hd2;simp only[if_true];constructor
     . rintro(hh|⟨hh,_⟩)
       . exact absurd hh (hno k)
       . exact⟨_,rfl,hc.1,hh.symm,hd⟩
     . rintro⟨x,hx,_,h3,_⟩
       cases hx;exact .inr ⟨h3.symm,trivial⟩
   . simp only[if_neg hd2,hd2,and_false,DQ];exact h.al k d
 . rename_i hc;refine⟨fun k d=>?_,h.full⟩;show fm G.alive k d↔_
   rw[hk];by_cases hd2:d=e.dot
   . subst hd2;simp only[if_true];refine⟨fun hh=>absurd hh (hno k),?_⟩;rintro⟨x,hx,h2,_,h4⟩
     cases hx;refine absurd ⟨h2,?_⟩ hc;show ar G.dead e.dot=none
     cases e5:ar G.dead e.dot with
     |none=>rfl
     |some z=>rw[e5]at h4;simp at h4
   . simp only[if_neg hd2];exact h.al k d
theorem cq.apply {G:aY} {m:bh} {e:af} (h:cq G m) (v:Value) (nb:Nat) (hr:js e=true) (hh:fj m.ctx e.dot=false) (hs:getM m.ctx e.dot.dev e.dot.inc+1=e.dot.seq) (hk:¬2048<=m.kept.length):
   cq (oA G e v nb) (eL m e).1/\(eL m e).2=(true,0):=by
 have hA:eL m e=(⟨gP m.ctx e.dot.dev e.dot.inc e.dot.seq,gi m.kept e,eI cM (m.dead++e.over)⟩,true,0):=by
   unfold eL;rw[if_neg (by simp[hr]),if_neg (by simp[hh]),if_neg (by simp[hs]),if_neg hk]
 rw[hA];refine⟨?_,rfl⟩;have hn:=h.none hh;obtain⟨k1,k2,k3⟩:=zO (fD G e v) e nb;obtain⟨q1,q2⟩:=J5 e.over (gk (fD G e v) e nb);have hkept:(oA G e v nb).kept=bH G.kept e.dot (v,e):=q1.trans k1;have hvec:(oA G e v nb).vec=bH G.vec (e.dot.dev,e.dot.inc) e.dot.seq:=q2.trans k2;have hput:∀x,x∈gi m.kept e↔x∈m.kept\/x=e:=fun x=>wT m.kept e x
 have hdot:∀x∈m.kept,x.dot≠e.dot:=fun x hx he=>by
   have:=h.ctx x hx;rw[he,hh]at this;cases this
 refine⟨fun a i=>?_,fun x=>?_,fun d x hx=>?_,?_,?_,fun x hx=>?_,fun d=>?_,?_⟩
 . show mE (oA G e v nb).vec a i=getM (gP m.ctx e.dot.dev e.dot.inc e.dot.seq) a i
   rw[hvec,Fk];unfold mE;rw[gx];by_cases hc:a=e.dot.dev/\i=e.dot.inc
   . rw[if_pos hc,if_pos (by rw[hc.1,hc.2])];rfl
   . rw[if_neg hc,if_neg (by intro he;rw[BV]at he;exact hc he)];exact h.vec a i
 . show x∈gi m.kept e↔_
   rw[hput,hkept];simp only[gx];constructor
   . rintro(hx|rfl)
     . rw[if_neg (hdot x hx)];exact(h.kept x).1 hx
     . exact⟨v,by simp⟩
   . rintro⟨u,hu⟩;split at hu
     . cases hu;exact .inr rfl
     . exact .inl ((h.kept x).2 ⟨u,hu⟩)
 . rw[hkept,gx]at hx;split at hx
   . rename_i he;cases hx;exact he.symm
   . exact h.keys d x hx
 . show(oA G e v nb).kept.length=(gi m.kept e).length
   rw[hkept,IX hn,CR,h.len]
 . show(gi m.kept e).Pairwise _
   refine vQ (less:=xG) (fun x y z=>sM) h.sorted fun x hx=>?_
   rcases vr x.dot e.dot with h1|h1|h1
   . exact .inl h1
   . exact absurd h1 (hdot x hx)
   . exact .inr h1
 . have hx:x∈gi m.kept e:=hx;show fj (gP m.ctx e.dot.dev e.dot.inc e.dot.seq) x.dot=true
   unfold fj;rw[Fk];rcases(hput x).1 hx with hx|rfl
   . have h1:=h.ctx x hx;unfold fj at h1;rw[Ab]at h1⊢;refine⟨h1.1,?_⟩;have h2:=h1.2;rw[gT,Ah]at h2⊢;split
     . rename_i hc;rw[hc.1,hc.2]at h2;omega
     . exact h2
   . rw[tp hr,if_pos ⟨rfl,rfl⟩,gT];simp
 . show(ar (jq (gk (fD G e v) e nb) e.over).dead d).isSome=true↔d∈eI cM (m.dead++e.over)
   rw[J4,pC,Bc,k3];show(ar G.dead d).isSome=true\/_↔_
   rw[h.dead]
 . exact(h.u4.take hn).qw
end
section
variable [Inhabited aD]
def NK (p:World->Prop):Prop:=∀w,cA w->p w
theorem GL {w:World} {p:Nat->Prop} {g:Bool} {a:Addr} {v:Value} (h:Rd w p g (.wp a) v):v= .pointer (some a):=by cases h;rfl
end
def wY [Inhabited aD]:aP:={Y:=ak,pre:=fun _=>True,args:=fun d=>[.agg [i64 d.dev,i64 d.inc],i64 d.seq],res:=fun d=> .bool (fN d)}
theorem Me [Inhabited aD]:CO Pg wY:=cZ (C:=wY) (cfg:=fun y=>eK xY (eD y)) ch (fun _=>rfl) (fun _=>Cm) (n:=400) (by
 intro (d:ak) _
 (conv=>whnf)
 refine⟨d,?_⟩
 repeat ((conv=>whnf);first|refine⟨rfl,?_⟩|refine⟨trivial,?_⟩)
 repeat' (first|exact trivial|exact rfl|((conv=>whnf);first|(apply bN<;>intro)|apply And.intro)))
theorem Qx (a i n:Int) (w:World):Calls Tryz.prog 147 #[.agg #[.int .i64 a, .int .i64 i], .int .i64 n] w fun e w'=>e= .returned (.bool (fN ⟨a,i,n⟩))/\Below w.heap.size w w':=
 rB (C:=fun I=> @wY I) (fun I=> @Me I) (hfn:=rfl) (hb:=rfl) (args:=[.agg #[.int .i64 a, .int .i64 i], .int .i64 n]) (fun I=>⟨⟨a,i,n⟩,trivial,⟨rfl,fun j c v hc hv=>by
  match j with
  |0=>cases hc;cases hv;exact xe [a,i]
  |1=>cases hc;cases hv;exact .int _ _
  |_+2=>cases hc⟩,rfl⟩)
theorem PS {w:World} {bv:Nat} {L:List ((Int×Int)×Int)} (hm:aj w bv dF bQ L) (a i:Int):∀w':World,w'.heap[bv]? =w.heap[bv]? ->(Instr.lookup 147 (.map (some bv)) (.agg #[.int .i64 a, .int .i64 i]) false).run Tryz.prog w'= .ok (.int .i64 ((ar L (a,i)).getD 0)) w':=fun w' h=>by
 have:=(hm.same h).lookup x9 Tryz.underlying147 (rH w') (a,i) false;simp only[Ai,Az]at this;rw[show dF (a,i)= .agg #[.int .i64 a, .int .i64 i]from rfl]at this;rw[this]
 cases ar L (a,i)<;>rfl
structure dO (S:Nat->Prop) (w w':World):Prop where
 os:w'.os=w.os
 tape:w'.tape=w.tape
 output:w'.output=w.output
 size:w.heap.size<=w'.heap.size
 block:∀k,k<w.heap.size->¬S k->w'.heap[k]? =w.heap[k]?
theorem ke {S:Nat->Prop} {w w':World} (h:Below w.heap.size w w'):dO S w w':=⟨h.os,h.tape,h.output,h.size,fun k hk _=>h.block k hk⟩
theorem dO.trans {S:Nat->Prop} {a b c:World} (h:dO S a b) (k:dO S b c):dO S a c:=
 ⟨k.os.trans h.os,k.tape.trans h.tape,k.output.trans h.output,Ay h.size k.size,fun i hi hS=>(k.block i (AJ hi h.size) hS).trans (h.block i hi hS)⟩
theorem dO.mono {S T:Nat->Prop} {w w':World} (h:dO S w w') (hST:∀k,k<w.heap.size->S k->T k):dO T w w':=⟨h.os,h.tape,h.output,h.size,fun k hk hT=>h.block k hk fun hS=>hT (hST k hk hS)⟩
theorem dO.aL {S:Nat->Prop} (w:World) {b:Nat} (o:Obj) (hb:S b):dO S w.drew (World.aL w.drew b o):=⟨rfl,rfl,rfl,by simp[World.aL],fun k _ hS=>by
 show(w.drew.heap.setIfInBounds b o)[k]? =_
 have hne:¬b=k:=by rintro rfl;exact hS hb
 rw[Bx,if_neg hne]⟩
theorem dO.drew {S:Nat->Prop} {a w:World} (h:dO S a w):dO S a w.drew:=⟨h.os,h.tape,h.output,h.size,h.block⟩
theorem Qu (b:Nat) (w:World):(binOp BinOp.eql 147 (.map (some b)) (.map none)).run Tryz.prog w= .ok (.bool false) w:=by kernel_rfl
theorem Qw {w:World} {bs bv:Nat} {L:List ((Int×Int)×Int)} (hs:w.cell? ⟨bs,0,none⟩=some (.map (some bv))) (hm:aj w bv dF bQ L) (a i n:Int) (hne:bs≠bv) (hd:fN ⟨a,i,n⟩=true) (hlt:(ar L (a,i)).getD 0<n):
  Calls Tryz.prog 111 #[.pointer (some ⟨bs,0,none⟩), .agg #[.int .i64 a, .int .i64 i], .int .i64 n] w fun e w'=>e= .returned (.bool true)/\dO (· =bv) w w'/\aj w' bv dF bQ (bH L (a,i) n):=by
 have hlk:=PS hm a i;have hc:=fun w=>Qx a i n w
 rw[hd]at hc;have hbv:bv<w.heap.size:=by
  obtain⟨es,clk,h,_⟩:=hm.at_;exact(Aa.1 h).1
 have hbs:bs<w.heap.size:=by
  unfold World.cell? at hs
  cases h:w.heap[bs]? with
  |none=>simp[h]at hs
  |some o=>exact(Aa.1 h).1
 have hle:decide (n<=(ar L (a,i)).getD 0)=false:=B5 (by omega);have hmn:=fun w=>Qu bv w
 go_enter Tryz.func111,Tryz.ntmps111
 go_wp2_with fail
 have hq:Below w.heap.size w (w.alloc (.cells #[.int .i64 a, .int .i64 i] 33)).drew:=((Below.refl w.heap.size w).alloc (Af _) _).drew;have hsz:(w.alloc (.cells #[.int .i64 a, .int .i64 i] 33)).drew.heap.size=w.heap.size+1:=by simp
 have hn0:(w.alloc (.cells #[.int .i64 a, .int .i64 i] 33)).drew.cell? ⟨w.heap.size,0,none⟩=some (.int .i64 a):=by simp
 have hn1:(w.alloc (.cells #[.int .i64 a, .int .i64 i] 33)).drew.cell? ⟨w.heap.size,1,none⟩=some (.int .i64 i):=by simp
 go_region_with (go_at_call 147;refine(hc _).mono ?_;rintro e w1 ⟨rfl,hb⟩;have hs1:w1.cell? ⟨bs,0,none⟩=some (.map (some bv)):=(hb.cell (by rw[hsz];show bs<_;omega)).trans ((hq.cell hbs).trans hs);have hl1:=hlk w1 ((hb.block bv (by rw[hsz];omega)).trans (hq.block bv hbv));have hb0:=(hb.cell (p:=⟨w.heap.size,0,none⟩) (by rw[hsz];show w.heap.size<_;omega)).trans hn0;have hb1:=(hb.cell (p:=⟨w.heap.size,1,none⟩) (by rw[hsz];show w.heap.size<_;omega)).trans hn1)
 all_goals (have hmw:aj w1.drew bv dF bQ L:=hm.same ((hb.block bv (by rw[hsz];omega)).trans (hq.block bv hbv)))
 all_goals (obtain⟨es,clk,hu,hmu⟩:=hmw.update x9 Tryz.underlying147 (a,i) n)
 all_goals (rw[show dF (a,i)= .agg #[.int .i64 a, .int .i64 i]from rfl,show bQ n= .int .i64 n from rfl]at hu)
 all_goals (go_wp2_with fail)
 all_goals (go_region_with fail)
 all_goals (go_wp2)
 all_goals (go_ret)
 all_goals (exact⟨rfl,((ke hq).trans (ke hb).drew).trans (dO.aL _ _ rfl),hmu⟩)
end Go.Proofs
