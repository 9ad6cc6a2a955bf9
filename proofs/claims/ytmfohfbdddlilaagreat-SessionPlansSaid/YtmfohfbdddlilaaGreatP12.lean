/- Part 12: an evaluator, proved sound, and its use at this seat; no condition. -/
import Derived.Deep.RegionHeld3
import Derived.Deep.Cut
import Derived.Test.YtmfohfbdddlilaaGreatP11
set_option linter.unusedSimpArgs false
set_option linter.unusedVariables false
set_option linter.unusedSectionVars false
set_option linter.deprecated false
set_option maxRecDepth 100000
set_option maxHeartbeats 8000000
namespace Go.Proofs
open Go Go.Am Go.RowKit Go.Sy Go.Gm
section
theorem P3 (d:ar) (w:World):(Builtin.delete_ #[101,35] 0 #[.map none,bT d]).run Tryz.prog w= .ok (.tuple #[]) w:=by
 have h:(Instr.checkKey true 10000 35 (bT d)).run Tryz.prog w= .ok () w:=iF.iG true d w;unfold Builtin.delete_;simp[run_underlying Tryz.underlying101,h]
section
variable {K V:Type} [DecidableEq K]
theorem Va {A:List (K×V)} {k:K} (h:aE A k=none):dz A k=A:=by
 unfold dz;rw[BG];intro x hx;simp only[AS,Ah];rintro rfl;exact bN.1 h (Av.2 ⟨x,hx,rfl⟩)
theorem Xd (A:List (K×V)) (k:K) (v:V):dz (cB A k v) k=dz A k:=by
 have key:∀A:List (K×V),(A.map fun x=>if k=x.1 then(k,v)else x).filter (fun x=> !decide (k=x.1))=A.filter fun x=> !decide (k=x.1):=by
   intro A;induction A with
   |nil=>rfl
   |cons x A ih=>
    rw[A4,Df,Df,ih];by_cases e:k=x.1<;>simp[e]
 unfold cB dz;split
 . exact key A
 . rw[DJ];simp
end
theorem wX {S:Nat->Prop} {w:World} {j:Nat} {o:Obj} (hm:ly w j) (hS:S j):eS S w (World.bc w j o):=⟨rfl,rfl,rfl,by simp[World.bc],fun k _ hk=>gm hm fun e=>hk (by rw[e];exact hS)⟩
theorem Tryz.kill {w:World} {n b bk ba bd bs bv:Nat} {G:bD} (h:cW w n b bk ba bd bs bv G) (d:ar):
  Calls Tryz.prog 73 #[.pointer (some ⟨b,0,none⟩),bT d] w fun e' w'=>e'= .returned (.tuple #[])/\eS (dW bk ba bd bv G) w w'/\cW w' n b bk ba bd bs bv (ke G d):=by
 obtain⟨e,v,is,hv,hk,his,hG⟩:∃(e:ae) (v:Value) (is:Bool),v.oneCell'=true/\((aE G.kept d).map (·.1)).getD (ic uQ (.slice none 0 0))=ic e v/\(aE G.kept d).isSome=is/\
   ke G d={G with dead:=cB G.dead d 1,alive:=if is=true/\e.kind=1 then nP G.alive e.key d else G.alive}:=by
  cases hg:aE G.kept d with
  |none=>exact⟨uQ, .slice none 0 0,false,rfl,rfl,rfl,by unfold ke;rw[hg];simp⟩
  |some x=>
   obtain⟨v,hx,hd⟩:=h.ev _ (mg hg);refine⟨x.2,v,true,?_,hx,rfl,by unfold ke;rw[hg];simp⟩;rcases hd with⟨_,a,c,rfl⟩|⟨_,_,_,_,_,_,rfl,_⟩<;>rfl
 obtain⟨G2,hG2⟩:∃G2,ke G d=G2:=⟨_,rfl⟩;rw[hG2]at hG⊢;obtain⟨W,hW⟩:∃W,(w.alloc (.cells #[.int .i64 d.dev, .int .i64 d.inc, .int .i64 d.seq] 35))=W:=⟨_,rfl⟩;have hb:Below w.heap.size w W:=by rw[<-hW];exact(Below.refl w.heap.size w).alloc (Ai _) _
 have h0:=h.below hb;have d0:W.cell? ⟨w.heap.size,0,none⟩=some (.int .i64 d.dev):=by rw[<-hW];simp
 have d1:W.cell? ⟨w.heap.size,1,none⟩=some (.int .i64 d.inc):=by rw[<-hW];simp
 have d2:W.cell? ⟨w.heap.size,2,none⟩=some (.int .i64 d.seq):=by rw[<-hW];simp
 have hsz:W.heap.size=w.heap.size+1:=by rw[<-hW];simp
 have h1:=h0.below (Below.refl W.heap.size W).drew;have c2:=h0.c2;obtain⟨es,clk,hu,hmu⟩:=h1.md.update iF Tryz.underlying101 d 1;have h2:=h1.oI hmu;have hmb:ly W.drew bd:=aC.isMap h1.md;obtain⟨W2,hW2⟩:∃W2,World.bc W.drew bd (.map es clk)=W2:=⟨_,rfl⟩;have d0':W2.cell? ⟨w.heap.size,0,none⟩=some (.int .i64 d.dev):=by rw[<-hW2];exact pZ hmb d0
 have d1':W2.cell? ⟨w.heap.size,1,none⟩=some (.int .i64 d.inc):=by rw[<-hW2];exact pZ hmb d1
 have d2':W2.cell? ⟨w.heap.size,2,none⟩=some (.int .i64 d.seq):=by rw[<-hW2];exact pZ hmb d2
 rw[hW2]at hu h2;have hbut:eS (dW bk ba bd bv G) w W2:=by
  refine(lK hb.drew).more (T:=(· =bd)) ⟨by rw[<-hW2];rfl,by rw[<-hW2];rfl,by rw[<-hW2];rfl,by rw[<-hW2];simp[World.bc],fun k _ hk=>by rw[<-hW2];exact gm hmb hk⟩ ?_;rintro i _ rfl;unfold dW;simp
 have hsz2:w.heap.size<W2.heap.size:=by rw[<-hW2];simp[World.bc,hsz]
 obtain⟨W4,hs19,hst,hb4,k6,k7,k8,k9⟩:=PR W2 e v hv;obtain⟨u,hue⟩:∃u,u=ic e v:=⟨_,rfl⟩;rw[<-hue]at hst hk hs19;clear hue hv;obtain⟨W3,hW3⟩:∃W3,W2.alloc (.cells dN 42)=W3:=⟨_,rfl⟩;have hb3:Below W2.heap.size W2 W3:=by rw[<-hW3];exact(Below.refl W2.heap.size W2).alloc (Ai _) _
 rw[hW3]at hst;have h3:=h2.below hb3.drew;have c0:W3.cell? ⟨b,0,none⟩=some (.map (some bk)):=(h2.below hb3).c0;have d0'':W3.cell? ⟨w.heap.size,0,none⟩=some (.int .i64 d.dev):=(hb3.cell hsz2).trans d0';have d1'':W3.cell? ⟨w.heap.size,1,none⟩=some (.int .i64 d.inc):=(hb3.cell hsz2).trans d1';have d2'':W3.cell? ⟨w.heap.size,2,none⟩=some (.int .i64 d.seq):=(hb3.cell hsz2).trans d2';have h2d:=h2.below (Below.refl W2.heap.size W2).drew;have c0a:=h2.c0;have hlk:=HM h3.ir d;have hlka:=HM h2d.ir d;have h4:=h2.below hb4;have e0:W4.cell? ⟨w.heap.size,0,none⟩=some (.int .i64 d.dev):=(hb4.cell hsz2).trans d0';have e1:W4.cell? ⟨w.heap.size,1,none⟩=some (.int .i64 d.inc):=(hb4.cell hsz2).trans d1';have e2:W4.cell? ⟨w.heap.size,2,none⟩=some (.int .i64 d.seq):=(hb4.cell hsz2).trans d2';rw[show G.kept=({G with dead:=cB G.dead d 1}:bD).kept from rfl]at hk his;rw[hk,his]at hlk hlka;rw[show bT d= .agg #[.int .i64 d.dev, .int .i64 d.inc, .int .i64 d.seq]from rfl]at hlk hlka hu⊢;rw[show cN 1= .int .i64 1 from rfl]at hu;unfold dN at hW3;simp only[Value.cells]at hst hs19;clear h h0 h1 hmu hW2 h3 h2d hk;go_enter Tryz.func73,Tryz.ntmps73
 go_wp2_with fail
 go_region
 go_wp2_with fail
 go_region
 have hbut4:eS (dW bk ba bd bv G) w W4:=hbut.more (lK (S:=fun _=>False) hb4) fun _ _ h=>h.elim
 by_cases hin:is=true/\e.kind=1
 case neg=>
  rw[Aj hin]at hG;have h5:cW W4 n b bk ba bd bs bv G2:=by rw[hG];exact h4
  clear hG2 hG
  cases is with
  |false=>
   go_wp2;refine bodyPost_ret (results_none rfl _ _ _) rfl ?_;exact⟨rfl,hbut4,h5⟩
  |true=>
   have hkd:¬e.kind=1:=fun hh=>hin ⟨rfl,hh⟩
   go_wp2;refine bodyPost_ret (results_none rfl _ _ _) rfl ?_;exact⟨rfl,hbut4,h5⟩
 case pos=>
  obtain⟨rfl,hkd⟩:=hin;rw[An ⟨rfl,hkd⟩]at hG;rw[hkd]at k6;have h4d:=h4.below (Below.refl W4.heap.size W4).drew;have c1:=h4.c1;have hlk4:=jF h4d.ma e.key;rw[show dw e.key= .agg #[da e.key.name,da e.key.domain,da e.key.path]from rfl]at hlk4;unfold nP at hG
  cases hj:aE G.alive e.key with
  |none=>
   rw[show({G with dead:=cB G.dead d 1}:bD).alive=G.alive from rfl,hj]at hlk4;rw[hj]at hG;simp only[B6]at hlk4;have hdn:=P3 d W4.drew;rw[show bT d= .agg #[.int .i64 d.dev, .int .i64 d.inc, .int .i64 d.seq]from rfl]at hdn;have h5:=h4d.below (Below.refl W4.drew.heap.size W4.drew).drew;have h6:=h5.below (Below.refl W4.drew.drew.heap.size W4.drew.drew).drew;have hlk5:=jF h5.ma e.key;rw[show dw e.key= .agg #[da e.key.name,da e.key.domain,da e.key.path]from rfl]at hlk5;rw[show({G with dead:=cB G.dead d 1}:bD).alive=G.alive from rfl,hj]at hlk5;simp only[B6]at hlk5;obtain⟨es6,clk6,hu6,hm6⟩:=h6.ma.delete (ts:=#[100,24]) (ty:=0) yy Tryz.underlying100 e.key rfl;rw[show dw e.key= .agg #[da e.key.name,da e.key.domain,da e.key.path]from rfl]at hu6;have h7:=h6.jW hm6;rw[show({G with dead:=cB G.dead d 1}:bD).alive=G.alive from rfl,Va hj]at h7;have hb7:eS (dW bk ba bd bv G) w (World.bc W4.drew.drew.drew ba (.map es6 clk6)):=hbut4.drew.drew.drew.trans (wX (S:=dW bk ba bd bv G) (aC.isMap h6.ma) (by unfold dW;simp));have h8:cW (World.bc W4.drew.drew.drew ba (.map es6 clk6)) n b bk ba bd bs bv G2:=by rw[hG];exact h7
   clear h4 h4d h5 h6 h7 hm6 hG hG2;go_wp2_with fail
   go_region
   go_wp2_with fail
   go_region
   go_wp2_with fail
   go_region
   go_wp2;go_end0
   exact⟨rfl,hb7,h8⟩
  |some x=>
   obtain⟨j,L⟩:=x;have hj':aE ({G with dead:=cB G.dead d 1}:bD).alive e.key=some (j,L):=hj;rw[hj']at hlk4;rw[hj]at hG;simp only[Bh]at hlk4;simp only at hG;have hjm:=mg hj';obtain⟨es5,clk5,hu5,hm5⟩:=(h4d.mi _ hjm).delete (ts:=#[101,35]) (ty:=0) iF Tryz.underlying101 d rfl;rw[show bT d= .agg #[.int .i64 d.dev, .int .i64 d.inc, .int .i64 d.seq]from rfl]at hu5;have h5:=h4d.iE hj' hm5;have hmj:ly W4.drew j:=aC.isMap (h4d.mi _ hjm);have hb5:eS (dW bk ba bd bv G) w (World.bc W4.drew j (.map es5 clk5)):=hbut4.drew.trans (wX (S:=dW bk ba bd bv G) hmj (by unfold dW;simp only[Ak,Av];exact .inr (.inr (.inr (.inr ⟨_,mg hj,rfl⟩)))));obtain⟨W5,hW5⟩:∃W5,World.bc W4.drew j (.map es5 clk5)=W5:=⟨_,rfl⟩;have q7:W5.cell? ⟨W2.heap.size,7,none⟩=some (da e.key.name):=by rw[<-hW5];exact pZ hmj k7
   have q8:W5.cell? ⟨W2.heap.size,8,none⟩=some (da e.key.domain):=by rw[<-hW5];exact pZ hmj k8
   have q9:W5.cell? ⟨W2.heap.size,9,none⟩=some (da e.key.path):=by rw[<-hW5];exact pZ hmj k9
   rw[hW5]at hu5 h5 hb5;have c1':=h5.c1;have hget:aE (cB G.alive e.key (j,dz L d)) e.key=some (j,dz L d):=by rw[iK];simp
   have h6:=h5.below (Below.refl W5.heap.size W5).drew;have hlk6:=jF h6.ma e.key;rw[show dw e.key= .agg #[da e.key.name,da e.key.domain,da e.key.path]from rfl,show({G with dead:=cB G.dead d 1,alive:=cB G.alive e.key (j,dz L d)}:bD).alive=cB G.alive e.key (j,dz L d)from rfl,hget]at hlk6;simp only[Bh]at hlk6;obtain⟨esl,clkl,hbl,hszl⟩:=(h6.mi _ (mg hget)).len;have hlen:(Builtin.len_ #[101] 3 #[.map (some j)]).run Tryz.prog W5.drew= .ok (.int .i64 (dz L d).length) W5.drew:=by
     rw[run_len_map W5.drew 101 3 j esl clkl (by simp[Program.mapKeyOf,Program.mapElemOf,Tryz.underlying101]) hbl,hszl];rfl
   by_cases hnil:dz L d=[]
   . rw[An hnil]at hG;have hz:((dz L d).length:Int)=0:=by rw[hnil];rfl
     rw[hz]at hlen;have h7:=h6.below (Below.refl W5.drew.heap.size W5.drew).drew;obtain⟨es8,clk8,hu8,hm8⟩:=h7.ma.delete (ts:=#[100,24]) (ty:=0) yy Tryz.underlying100 e.key rfl;rw[show dw e.key= .agg #[da e.key.name,da e.key.domain,da e.key.path]from rfl]at hu8;have h8:=h7.jW hm8;rw[show({G with dead:=cB G.dead d 1,alive:=cB G.alive e.key (j,dz L d)}:bD).alive=cB G.alive e.key (j,dz L d)from rfl,Xd]at h8;have hb9:eS (dW bk ba bd bv G) w (World.bc W5.drew.drew ba (.map es8 clk8)):=hb5.drew.drew.trans (wX (S:=dW bk ba bd bv G) (aC.isMap h7.ma) (by unfold dW;simp));have h9:cW (World.bc W5.drew.drew ba (.map es8 clk8)) n b bk ba bd bs bv G2:=by rw[hG];exact h8
     clear h4 h4d h5 h6 h7 h8 hm8 hm5 hG hG2 hget hbl hnil hj hj' hW5;go_wp2_with fail
     go_region
     go_wp2_with fail
     go_region
     go_wp2_with fail
     go_region
     go_wp2;go_end0
     exact⟨rfl,hb9,h9⟩
   . rw[Aj hnil]at hG;have hz:decide (((dz L d).length:Int)=0)=false:=Bq (by
      intro h0;exact hnil (AQ.1 (by omega)))
     have h9:cW W5.drew n b bk ba bd bs bv G2:=by rw[hG];exact h6
     have hz':((((dz L d).length:Int))==0)=false:=by simpa using hz
     clear h4 h4d h5 h6 hm5 hG hG2 hget hbl hj hj' hW5;go_wp2_with fail
     go_region
     go_wp2_with fail
     go_region
     go_wp2;go_end0
     exact⟨rfl,hb5.drew,h9⟩
end
def cY (e:ae) (v:Value):List Value:=[.int .i64 e.dot.dev, .int .i64 e.dot.inc, .int .i64 e.dot.seq, .int .i64 e.bu.wall, .int .i64 e.bu.count, .int .i64 e.bu.dev, .int .i64 e.kind,da e.key.name,da e.key.domain,da e.key.path,
 da e.ab.value, .bool e.ab.aF, .bool e.ab.aV, .bool e.ab.aG, .bool e.ab.persistent, .int .i64 e.ab.aP, .int .i64 e.ab.aq, .int .i64 e.ab.access,v]
theorem za {e:ae} {v:Value} (hv:v.oneCell'=true):∀x∈cY e v,x.oneCell'=true:=by
 intro x hx;simp only[cY,Ak,BN,Dr]at hx;rcases hx with rfl|rfl|rfl|rfl|rfl|rfl|rfl|rfl|rfl|rfl|rfl|rfl|rfl|rfl|rfl|rfl|rfl|rfl|rfl
 all_goals first|exact hv|rfl
theorem PS:∃fs,Tryz.prog.underlying 42=some (.struct fs):=⟨_,Tryz.underlying42⟩
theorem Pf {W:World} {b:Nat} {e:ae} {v:Value} (h:W.rangeAt b 0 (cY e v)):(loadVar 42 ⟨b,0,none⟩).run Tryz.prog W= .ok (ic e v) W:=by
 obtain⟨fs,hu⟩:=PS;exact run_loadVar_mid W b 0 42 (cY e v) _ h hu rfl (by kernel_rfl)
theorem Gj {W:World} {b:Nat} {e:ae} {v:Value} (h:W.rangeAt b 0 (cY e v)):(loadCellsFrom ⟨b,0,none⟩ 0 19 #[]).run Tryz.prog W= .ok (cY e v).toArray W:=by
 have hl:(loadCells ⟨b,0,none⟩ (cY e v).length).run Tryz.prog W= .ok (cY e v).toArray W:=
  run_loadCells_list (P:=Tryz.prog) W ⟨b,0,none⟩ (cY e v) (fun j v hv=>by rw[Addr.add_mid];exact h j v hv)
 exact hl
def Hid (p:Prop):Prop:=p
theorem uc:∃(SZ:Sem Nat) (m:Nat),sizeOf 42=SZ/\(∀w,SZ.run Tryz.prog w= .ok m w)/\Hid (m=19):=⟨_,_,rfl,Tryz.sizeOf42,rfl⟩
theorem HI {W:World} {b:Nat} {e:ae} {v:Value} (hv:v.oneCell'=true) (hth:W.there b 0 19):(ic e v).cells.size=19/\(storeCells ⟨b,0,none⟩ (ic e v).cells.toList).run Tryz.prog W= .ok () (W.setCells b 0 (cY e v)):=
 ⟨rfl,run_storeCells_cells (P:=Tryz.prog) b 0 (cY e v) 0 W (fun j hj=>(by simpa using(hth j hj).1)) (fun j hj=>(by simpa using(hth j hj).2)) (za hv)⟩
theorem tO (W:World) (e:ae) (v:Value):(W.alloc (.cells (ic e v).cells 42)).rangeAt W.heap.size 0 (cY e v):=fun j x hx=>by
 have h:(W.alloc (.cells (ic e v).cells 42)).heap[W.heap.size]? =some (.cells (cY e v).toArray 42 (0,0)):=by
  rw[mn,An rfl];rfl
 unfold World.cell?
 simp only[h,Ay,A2,Ao,AK];simpa using hx
theorem fZ {W W':World} (hc:jJ W W') {b o:Nat} {cs:List Value} (h:W.rangeAt b o cs):W'.rangeAt b o cs:=fun j x hx=>by
 have h1:=h j x hx;refine eg h1 ?_;unfold World.cell? at h1
 cases e:W.heap[b]? with
 |none=>simp[e]at h1
 |some q=>
  cases q with
  |cells arr t fz=>exact hc _ _ _ _ e
  |_=>simp[e]at h1
theorem zk {W W':World} (hc:jJ W W') {b n:Nat} (h:W.there b 0 n) (hn:0<n):W'.there b 0 n:=by
 have h1:=(h 0 hn).1;have hb:W'.heap[b]? =W.heap[b]? :=by
  obtain⟨u,hu⟩:=BJ.1 h1;unfold World.cell? at hu
  cases e:W.heap[b]? with
  |none=>simp[e]at hu
  |some q=>
   cases q with
   |cells arr t fz=>exact hc _ _ _ _ e
   |_=>simp[e]at hu
 intro j hj;have h2:=h j hj;unfold World.cell? World.frozen? at h2⊢;rw[hb];exact h2
theorem yZ (W:World) (cs:Array Value):(W.alloc (.cells cs 42)).there W.heap.size 0 cs.size:=fun j hj=>by
 have h:(W.alloc (.cells cs 42)).heap[W.heap.size]? =some (.cells cs 42 (0,0)):=by rw[mn,An rfl]
 constructor
 . unfold World.cell?
   simp only[h,Ay,A2,Ao,AK];rw[AX hj];rfl
 . unfold World.frozen?
   simp only[h];simp
theorem Sj {W W':World} {b n:Nat} (hb:W'.heap[b]? =W.heap[b]?) (h:W.there b 0 n):W'.there b 0 n:=by
 intro j hj;have h2:=h j hj;unfold World.cell? World.frozen? at h2⊢;rw[hb];exact h2
theorem RJ {W:World} {b:Nat} {e:ae} {v v':Value} (h:W.rangeAt b 0 (cY e v)):(W.setCell ⟨b,18,none⟩ v').rangeAt b 0 (cY e v'):=by
 have h18:=h 18 v rfl;intro j x hx;have hj:j<19:=(Ae.1 hx).1;by_cases e18:j=18
 . subst e18
   cases hx;exact World.cell?_setCell_same' _ _ _ (by rw[show(⟨b,18,none⟩:Addr)=⟨b,0+18,none⟩from rfl,h18];rfl)
 . have hx':(cY e v)[j]? =some x:=by
     match j,hj with
     |0,_|1,_|2,_|3,_|4,_|5,_|6,_|7,_|8,_|9,_|10,_|11,_|12,_|13,_|14,_|15,_|16,_|17,_=>exact hx
     |18,_=>exact absurd rfl e18
   rw[World.cell?_setCell_other]
   . exact h j x hx'
   . intro he;have:=Ap Addr.off he;simp at this;omega
theorem Q8 {fn:Func} {t:Tmp} {ty:TypeId} (h:fn.results=#[.cell t ty]) {tmps:Array Value} {w:World} {a:Addr} {v:Value} (hp:tmps.getD t undef= .pointer (some a)) (hl:(loadVar ty a).run Tryz.prog w= .ok v w):(results fn tmps).run Tryz.prog w= .ok v w:=by
 have hp':tmps[t]?.getD undef= .pointer (some a):=by simpa using hp
 simp[results,h,asAddr,hp',hl]
theorem cK.one {w:World} {l:List ar} {v:Value} (h:cK w l v):∃a n c,v= .slice a n c:=by
 rcases h with⟨_,a,c,rfl⟩|⟨_,_,_,_,_,_,rfl,_⟩<;>exact⟨_,_,_,rfl⟩
theorem HW {B:Nat} (b:Nat):∀(vs:List Value) (o:Nat) (w:World) (k:Nat),k≠b->(w.setCells b o vs).heap[k]? =w.heap[k]?
 |[],_,_,_,_=>rfl
 |v::r,o,w,k,h=>by
  rw[World.setCells,HW (B:=B) b r (o+1) _ k h];exact Below.heap_setCell w ⟨b,o,none⟩ v k h
theorem size_setCells (b:Nat):∀(vs:List Value) (o:Nat) (w:World),(w.setCells b o vs).heap.size=w.heap.size
 |[],_,_=>rfl
 |v::r,o,w=>by rw[World.setCells,size_setCells b r (o+1)];simp
def pG (w:World) (n:Nat) (u:Value) (e:ae):Prop:=∃v,u=ic e v/\dB w n e.over v
theorem pG.ev {w:World} {n:Nat} {u:Value} {e:ae} (h:pG w n u e):iP w u e:=by
 obtain⟨v,h1,h2⟩:=h;exact⟨v,h1,h2.cw⟩
theorem pG.mono {w:World} {n m:Nat} {u:Value} {e:ae} (h:pG w n u e) (hm:m<=n):pG w m u e:=by
 obtain⟨v,h1,h2⟩:=h;exact⟨v,h1,h2.mono hm⟩
theorem PX {w3:World} {bx bz n:Nat} {e:ae} {v v':Value} (r3:w3.rangeAt bx 0 (cY e v)) (t3:w3.there bx 0 19) (t4:w3.there bz 0 19) (hne:bz≠bx) (hd:dB w3 n e.over v') (hx:bx<n) (hz:bz<n):
   ∃cs W4 W5,w3.setCell ⟨bx,18,none⟩ v'=W4/\w3.cell? ⟨bx,18,none⟩=some v/\w3.frozen? ⟨bx,18,none⟩=false/\(loadCellsFrom ⟨bx,0,none⟩ 0 19 #[]).run Tryz.prog W4= .ok cs W4/\cs.size=19/\(storeCells ⟨bz,0,none⟩ cs.toList).run Tryz.prog W4= .ok () W5/\
    (loadVar 42 ⟨bz,0,none⟩).run Tryz.prog W5= .ok (.agg cs) W5/\pG W5 n (.agg cs) e/\ ∀B,B<=bx->B<=bz->Below B w3 W5:=by
 have hv:=hd.one;obtain⟨sa,sn,sc,rfl⟩:=hv;have r4:(w3.setCell ⟨bx,18,none⟩ (.slice sa sn sc)).rangeAt bx 0 (cY e (.slice sa sn sc)):=RJ r3;have t5:(w3.setCell ⟨bx,18,none⟩ (.slice sa sn sc)).there bz 0 19:=Sj (Below.heap_setCell _ _ _ _ hne) t4;obtain⟨s19,hst⟩:=HI (e:=e) (v:= .slice sa sn sc) rfl t5;have r5:=World.rangeAt_setCells_same (w3.setCell ⟨bx,18,none⟩ (.slice sa sn sc)) bz 0 (cY e (.slice sa sn sc)) t5;refine⟨(cY e (.slice sa sn sc)).toArray,_,_,rfl,r3 18 v rfl,(t3 18 (by omega)).2,Gj r4,rfl,hst,Pf r5,⟨_,rfl,hd.aW fun b _ hb _=>?_⟩,fun B h1 h2=>?_⟩
 . rw[HW (B:=0) bz _ _ _ _ (by omega),Below.heap_setCell _ _ _ _ (by show b≠bx;omega)]
 . exact vA h2 _ _ _ ((Below.refl _ _).setCell h1 _)
theorem G1 {w:World} {e:ae} {u:Value} (h:iP w u e) (hl:e.over.length<=100000):Calls Tryz.prog 70 #[u] w fun e' w'=>∃u',e'= .returned u'/\pG w' w.heap.size u' e/\Below w.heap.size w w':=by
 obtain⟨v,hu,hd⟩:=h;obtain⟨va,vn,vc,hve⟩:=hd.one;obtain⟨cs,hcs⟩:∃cs:Array Value,(cY e v).toArray=cs:=⟨_,rfl⟩;have hu':u= .agg cs:=by rw[hu,<-hcs];rfl
 clear hu;subst hu';obtain⟨W,hW⟩:∃W,w.alloc (.cells cs 42)=W:=⟨_,rfl⟩;have hb:Below w.heap.size w W:=by rw[<-hW];exact(Below.refl w.heap.size w).alloc (Ai _) _
 have hr:W.rangeAt w.heap.size 0 (cY e v):=by rw[<-hW,<-hcs];exact tO w e v
 have hs:W.heap.size=w.heap.size+1:=by rw[<-hW];simp
 have ht:W.there w.heap.size 0 19:=by
  have:=yZ w cs;rw[hW,show cs.size=19 by rw[<-hcs];rfl]at this;exact this
 obtain⟨W2,hW2⟩:∃W2,W.alloc (.cells dN 42)=W2:=⟨_,rfl⟩;have hb2:Below W.heap.size W W2:=by rw[<-hW2];exact(Below.refl W.heap.size W).alloc (Ai _) _
 have ht2:W2.there W.heap.size 0 19:=by
  have:=yZ W dN;rw[hW2]at this;exact this
 have hs2:W2.heap.size=w.heap.size+2:=by rw[<-hW2];simp[hs]
 have hc2:jJ w W2:=fun b arr t fz hx=>ep hb2 _ _ _ _ (ep hb _ _ _ _ hx)
 have k18:W2.cell? ⟨w.heap.size,18,none⟩=some v:=fZ (ep hb2) hr 18 v rfl;have hcall:=PK (hd.cells hc2) hl;rw[hve]at hcall k18;obtain⟨SZ,m,hSZ,hsz,hm⟩:=uc;have hr2:W2.rangeAt w.heap.size 0 (cY e v):=fZ (ep hb2) hr;have ht1:W2.there w.heap.size 0 19:=zk (ep hb2) ht (by omega);rw[hs]at ht2;unfold dN at hW2;clear hcs hve;go_enter Tryz.func70,Tryz.ntmps70
 go_wp2_with (go_at_call 112;go_loud (refine hcall.mono ?_;rintro e' w3 ⟨v',rfl,hd3,hb3⟩;obtain⟨cs',W4,W5,hW4,k3,f3,x1,s19,hst,x2,hev,hbel⟩:=PX (fZ (ep hb3) hr2) (zk (ep hb3) ht1 (by omega)) (zk (ep hb3) ht2 (by omega)) (by omega) hd3 (by omega) (by omega);obtain⟨sa,sn,sc,rfl⟩:=hd3.one;rw[<-(hm:m=19)]at x1 s19;clear hm;have hbf:=(hb.trans ((hb2.mono (by omega)).trans (hb3.mono (by omega)))).trans (hbel w.heap.size (Ai _) (by omega))))
 refine bodyPost_ret (Q8 rfl rfl x2) rfl ?_;exact⟨_,rfl,hev.mono (by omega),hbf⟩
theorem P4 {w:World} {e:ae} {u:Value} (h:iP w u e) (hl:e.over.length<=100000):Calls Tryz.prog 70 #[u] w fun e' w'=>∃u',e'= .returned u'/\iP w' u' e/\Below w.heap.size w w':=by
 refine(G1 h hl).mono ?_;rintro e' w' ⟨u',rfl,h1,h2⟩;exact⟨u',rfl,h1.ev,h2⟩
end Go.Proofs
namespace Go.Proofs
open Go Go.Am Go.RowKit Go.Sy Go.Gm Go.Maps Go.Sort Go.Shelf
theorem kA.mono {n m:Nat} {l:List ar} {v:Value} (h:kA n l v) (hm:m<=n):kA m l v:=by
 rcases h with h|⟨b,off,k,c,h,hb⟩
 . exact .inl h
 . exact .inr ⟨b,off,k,c,h,Aq hm hb⟩
theorem Pz (b:Nat) (w:World):Calls Tryz.prog 183 #[.map (some b)] w fun e w'=>e= .returned (.func (.func 231) #[] #[.pointer (some ⟨w.heap.size,0,none⟩)])/\w'=w.alloc (.cells #[.map (some b)] 101):=by
 go_enter Tryz.func183,Tryz.ntmps183
 go_wp2;go_ret;exact⟨rfl,rfl⟩
theorem PQ {w:World} {Bm b:Nat} {L:DL} (hm:w.cell? ⟨Bm,0,none⟩=some (.map (some b))) (hown:aC w b bT cN L) (hl:L.length<=1000000):
  Calls Tryz.prog 182 #[.func (.func 231) #[] #[.pointer (some ⟨Bm,0,none⟩)], .func (.func 184) #[] #[]] w fun e w'=>∃v,e= .returned v/\cK w' (cz bI (L.map (·.1))) v/\kA w.heap.size (cz bI (L.map (·.1))) v/\Below w.heap.size w w':=by
 letI:Inhabited aL:=⟨⟨True,#[]⟩⟩
 have hcol:=callsIn_wide.1 (PG 3 (Ai _) _ _ L.length hl w (OE 1 (Ai _) Bm b L w (iA hm) hm hown));go_enter Tryz.func182,Tryz.ntmps182
 go_wp2_with (first
  |(go_at_call 229;refine hcol.mono ?_;rintro e w1 ⟨v,ss,rfl,hS,hrow,hb1⟩;have hnd:ss.Nodup:=hS.nodup_iff.2 hown.nd;have hsl:ss.length<=1000000:=hS.length_eq.trans (A8 _)▸hl;have hsort:=Of hnd hrow hsl hb1.size)
  |(go_at_call 230;refine hsort.mono ?_;rintro e w2 ⟨rfl,hd,hn,hb2⟩))
 go_ret;have heq:cz bI ss=cz bI (L.map (·.1)):=uw (vL ss) fun x=>by rw[rG];exact hS.mem_iff
 rw[heq]at hd hn;exact⟨v,rfl,hd,hn,hb1.trans hb2⟩
theorem Gu {w:World} {bd:Nat} {L:DL} (hm:aC w bd bT cN L) (d:ar):(Instr.lookup 101 (.map (some bd)) (bT d) false).run Tryz.prog w= .ok (.int .i64 ((aE L d).getD 0)) w:=by
 rw[hm.lookup iF Tryz.underlying101 (u4 w) d false]
 cases aE L d<;>rfl
theorem Ua {K V:Type} [DecidableEq K] [Inhabited V] {L:List (K×V)} {k:K} (hk:k∉L.map (·.1)) (z:V):aE (L++[(k,z)]) k=some z:=by
 have:=iK L k k z;unfold cB at this;rw[Aj hk,An rfl]at this;exact this
theorem V1 {K V:Type} [DecidableEq K] {L:List (K×V)} {k:K} {v:V} (x:K):x∈(cB L k v).map (·.1)↔x=k\/x∈L.map (·.1):=by
 have h:=iK L k x v;by_cases e:x=k
 . rw[An e]at h;refine⟨fun _=> .inl e,fun _=>?_⟩;by_cases hm:x∈(cB L k v).map (·.1)
   . exact hm
   . rw[bN.2 hm]at h;cases h
 . rw[Aj e]at h;constructor
   . intro hm;refine .inr ?_;by_cases hn:x∈L.map (·.1)
     . exact hn
     . rw[bN.2 hn]at h;exact absurd hm (bN.1 h)
   . rintro(hm|hm)
     . exact absurd hm e
     . by_cases hn:x∈(cB L k v).map (·.1)
       . exact hn
       . rw[bN.2 hn]at h;exact absurd hm (bN.1 h.symm)
theorem Wg {l:List ar} {k:Nat} (hlt:k<l.length) {M:DL} {v:Int} (h:∀d,d∈M.map (·.1)↔d∈l.take k):∀d,d∈(cB M l[k] v).map (·.1)↔d∈l.take (k+1):=fun d=>by
 rw[V1,h,EX,Af hlt,A7];simp only[Option.toList_some,BE];exact or_comm
theorem Xw {M:DL} {d:ar} {v:Int} {k:Nat} (h:M.length<=k):(cB M d v).length<=k+1:=by
 unfold cB;split
 . rw[A8];omega
 . simp;omega
theorem Xz {M:DL} {k:Nat} (h:∀d,0<=(aE M d).getD 0/\(aE M d).getD 0<=(k:Int)) {e:ar}:∀d,0<=(aE (cB M e ((aE M e).getD 0+1)) d).getD 0/\(aE (cB M e ((aE M e).getD 0+1)) d).getD 0<=((k+1:Nat):Int):=fun d=>by
 rw[iK];have h1:=h e;have h2:=h d;split
 . simp only[BB];omega
 . omega
theorem G0 {w:World} {l:List ar} {v:Value} (h:cK w l v) (hl:l.length<=1000000):
  Calls Tryz.prog 156 #[v] w fun e w'=>∃v',e= .returned v'/\cK w' (cz bI l) v'/\kA w.heap.size (cz bI l) v'/\Below w.heap.size w w':=by
 letI:Inhabited aL:=⟨⟨True,#[]⟩⟩
 obtain⟨sa,sn,sc,rfl⟩:=h.one;have hsn:sn=l.length:=by
  rcases h with⟨h0,a,c,hh⟩|⟨_,_,_,_,_,_,hh,_⟩
  . cases hh;rw[h0];rfl
  . cases hh;rfl
 subst hsn;have hmm:= @run_makeMap Tryz.prog;go_enter Tryz.func156,Tryz.ntmps156
 go_wp2;go_loopw [9] (fun i wr=>∃(k:Nat) (M:DL),k<=l.length/\i= .int .i64 k/\aC wr w.heap.size bT cN M/\(∀d,d∈M.map (·.1)↔d∈l.take k)/\M.length<=k/\(∀d,0<=(aE M d).getD 0/\(aE M d).getD 0<=k)/\Below w.heap.size w wr)
  (fun i _=>l.length - (intOf i).toNat)
 case atStart=>exact⟨0,[],Au _,rfl,rF (by rw[mn,An rfl]),by simp,Au _,fun d=>by simp[ny],(Below.refl _ _).alloc (Ai _) _⟩
 case round=>
  obtain⟨k,M,hk,rfl,hM,hmem,hml,hcnt,hbr⟩:=hrel;by_cases hlt:k<l.length
  . rcases h with⟨h0,_⟩|⟨ob,off,cap,arr,ty,fz,hh,hob,hcap,hlen,hcells⟩
    . rw[h0]at hlt;exact absurd hlt (Bi _)
    . simp only[Value.slice.injEq]at hh;obtain⟨rfl, -,rfl⟩:=hh;obtain⟨x0,x1,x2⟩:=hcells k hlt;have hobr:=(hbr.block ob (Ad.1 hob).1).trans hob;have cell:∀{j:Nat} {u:Value},arr[j]? =some u->wr.cell? ⟨ob,j,none⟩=some u:=fun hx=>by
       unfold World.cell?;simp only[hobr,A2,Ao,AK];exact hx
      have c0:=cell x0;have c1:=cell x1;have c2:=cell x2;obtain⟨W,hW⟩:∃W,wr.alloc (.cells #[.int .i64 l[k].dev, .int .i64 l[k].inc, .int .i64 l[k].seq] 35)=W:=⟨_,rfl⟩;have hbW:Below wr.heap.size wr W:=by rw[<-hW];exact(Below.refl _ _).alloc (Ai _) _
      have d0:W.cell? ⟨wr.heap.size,0,none⟩=some (.int .i64 l[k].dev):=by rw[<-hW];simp
      have d1:W.cell? ⟨wr.heap.size,1,none⟩=some (.int .i64 l[k].inc):=by rw[<-hW];simp
      have d2:W.cell? ⟨wr.heap.size,2,none⟩=some (.int .i64 l[k].seq):=by rw[<-hW];simp
      have hMW:aC W.drew w.heap.size bT cN M:=hM.same (hbW.drew.block _ (Go.Gm.aC.lt hM));have hlk:=Gu hMW l[k];have hz0:=(hcnt l[k]).1;have hz1:=(hcnt l[k]).2;have hwr:IntKind.i64.wrap ((aE M l[k]).getD 0+1)=(aE M l[k]).getD 0+1:=IntWalk.i64_in _ (by omega);have hwr':wrap64 ((aE M l[k]).getD 0+1)=(aE M l[k]).getD 0+1:=IntWalk.wrap64_in _ (by omega);obtain⟨ev,en,o1,o2,he1,he2,hmb,hM2,hM1⟩:=hMW.entry iF Tryz.underlying101 (z:=0) (fun w=>u4 w) l[k] ((aE M l[k]).getD 0+1);have hlk1:(Instr.lookup 101 (.map (some w.heap.size)) (bT l[k]) false).run Tryz.prog (World.bc W.drew w.heap.size o1)= .ok (.int .i64 ((aE M l[k]).getD 0)) (World.bc W.drew w.heap.size o1):=by
       rcases hM1 with hM1|⟨hk1,hM1⟩
       . exact Gu hM1 l[k]
       . rw[Gu hM1 l[k],Ua hk1,bN.2 hk1];rfl
      have hs1:∀j,j≠w.heap.size->(World.bc W.drew w.heap.size o1).heap[j]? =W.heap[j]? :=fun j hj=>gm hMW.isMap hj
      have hs2:∀j,j≠w.heap.size->(World.bc (World.bc W.drew w.heap.size o1) w.heap.size o2).heap[j]? =W.heap[j]? :=fun j hj=>(gm hmb hj).trans (hs1 j hj)
      have hne:wr.heap.size≠w.heap.size:=Nat.ne_of_gt (Go.Gm.aC.lt hM);have hB2:Below w.heap.size w (World.bc (World.bc W.drew w.heap.size o1) w.heap.size o2):=⟨hbW.os.trans hbr.os,hbW.tape.trans hbr.tape,hbW.output.trans hbr.output,by have h1:=hbW.size;have h2:=hbr.size;simp[World.bc];omega,fun j hj=>((hs2 j (Nat.ne_of_lt hj)).trans (hbW.block j (AP hj hbr.size))).trans (hbr.block j hj)⟩;obtain⟨W1,hW1⟩:∃W1,World.bc W.drew w.heap.size o1=W1:=⟨_,rfl⟩;rw[hW1]at he1 he2 hmb hM2 hlk1 hs1 hs2 hB2;obtain⟨W2,hW2⟩:∃W2,World.bc W1 w.heap.size o2=W2:=⟨_,rfl⟩;rw[hW2]at he2 hM2 hs2 hB2;have p0:W2.cell? ⟨wr.heap.size,0,none⟩=some (.int .i64 l[k].dev):=eg d0 (hs2 _ hne);have p1:W2.cell? ⟨wr.heap.size,1,none⟩=some (.int .i64 l[k].inc):=eg d1 (hs2 _ hne);have p2:W2.cell? ⟨wr.heap.size,2,none⟩=some (.int .i64 l[k].seq):=eg d2 (hs2 _ hne);have q0:W1.cell? ⟨wr.heap.size,0,none⟩=some (.int .i64 l[k].dev):=eg d0 (hs1 _ hne);have q1:W1.cell? ⟨wr.heap.size,1,none⟩=some (.int .i64 l[k].inc):=eg d1 (hs1 _ hne);have q2:W1.cell? ⟨wr.heap.size,2,none⟩=some (.int .i64 l[k].seq):=eg d2 (hs1 _ hne);clear hM1 hmb hMW hs1 hs2;rw[show bT l[k]= .agg #[.int .i64 l[k].dev, .int .i64 l[k].inc, .int .i64 l[k].seq]from rfl]at hlk hlk1 he1;rw[show cN ((aE M l[k]).getD 0+1)= .int .i64 ((aE M l[k]).getD 0+1)from rfl]at he2;unfold goInt at he1 he2;go_wp2;go_region_held3 (fun w'=>w'.cell? ⟨wr.heap.size,0,none⟩=some (.int .i64 l[k].dev)/\w'.cell? ⟨wr.heap.size,1,none⟩=some (.int .i64 l[k].inc)/\w'.cell? ⟨wr.heap.size,2,none⟩=some (.int .i64 l[k].seq)) (simp[*]) (fail)
      all_goals go_wp2
      all_goals (
       go_roundw
       case rel=>exact⟨k+1,_,hlt,by go_num,hM2,Wg hlt hmem,Xw hml,Xz hcnt,hB2⟩
       case measure=>simp[intOf];omega)
  . have hkl:k=l.length:=by omega
    subst hkl;rw[Bu]at hmem;have hmk:=Pz w.heap.size wr;go_wp2_with (first
      |(go_at_call 183;refine hmk.mono ?_;rintro e w1 ⟨rfl,rfl⟩;have hsf:=PQ (w:=wr.alloc (.cells #[.map (some w.heap.size)] 101)) (Bm:=wr.heap.size) (by simp) (hM.same (Below.heap_alloc _ _ _ (Go.Gm.aC.lt hM))) (Aq hml hl))
      |(go_at_call 182;refine hsf.mono ?_;rintro e w2 ⟨v',rfl,hd,hn,hb2⟩))
    go_ret;have heq:cz bI (M.map (·.1))=cz bI l:=uw (vL _) fun x=>by rw[rG];exact hmem x
    rw[heq]at hd hn;have hs1:=hbr.size;exact⟨v',rfl,hd,kA.mono hn (by simp;omega),hbr.trans (((Below.refl _ _).alloc hs1 _).trans (hb2.mono (by simp;omega)))⟩
theorem QH {P:Program} {ops:Array Oper} {o:Oper} {a:Act} {w:World} {K:Act->World->Prop} {Q:Exit->Act->World->Prop} {E:Prop} (hg:o.guard=none) (s x:Operand) (t:TypeId)
  (ho:o.op= .call {callee:= .builtin .append,args:=#[s,x],argTypes:=#[t,t]})
  (base:Nat) (e:TypeId) (i:TypeInfo) (z:Value) (size bytes:Nat) (ht:P.underlying t=some (.slice e)) (hi:P.info? e=some i) (hz:i.zero=some z)
  (hsize:i.size=size) (hby:i.bytes=bytes) (hzs:z.cells.size=size) (hsz:0<size)
  (v:Value) (n:Nat) (xs:List Value) (hs:a.eval s=v) (hown:w.ownsRow base e size v n xs)
  (ad:Addr) (m c:Nat) (news:List Value) (hx:a.eval x= .slice (some ad) m c) (hl:news.length=m*size) (hnews:∀j u,news[j]? =some u->w.cell? (ad.add j)=some u) (h1:∀u∈news,u.oneCell'=true)
  (h63:n+m<=maxLen) (hbytes:(n+m)*bytes<=140737488355328) (hbase:base<=w.heap.size)
  (h:∀v' w',w'.ownsRow base e size v' (n+m) (xs++news)->w.grownBy w' v.ownBlock->K (a.put o.dst v') w'):
  if Region.wanted o (yielded ops a.tmps)=true then Oper.wp P o a w K Q else E:=by
 have hw:Region.wanted o (yielded ops a.tmps)=true:=by simp[Region.wanted,hg]
 rw[An hw];exact wp_append_own _ s x t ho base e i z size bytes ht hi hz hsize hby hzs hsz v n xs hs hown ad m c news hx hl hnews h1 h63 hbytes hbase fun v' w' h2 h3 _=>h v' w' h2 h3
def fW (L:List (ae×Value)):List Value:=L.flatMap fun x=>cY x.1 x.2
theorem JT (L:List (ae×Value)) (x:ae×Value):fW (L++[x])=fW L++cY x.1 x.2:=by
 unfold fW;rw[Dz,DP,List.flatMap_nil,A9]
theorem K8 (L:List (ae×Value)) (i:Nat) (h:i<L.length) (j:Nat) (hj:j<19):(fW L)[i*19+j]? =(cY L[i].1 L[i].2)[j]? :=by
 induction L generalizing i with
 |nil=>exact absurd h (Bi _)
 | cons x L ih=>
  have hr:fW (x::L)=cY x.1 x.2++fW L:=by unfold fW;rw[DP]
  have hl:(cY x.1 x.2).length=19:=rfl;rw[hr]
  cases i with
  |zero=>rw[Ep,Ay,AW (by omega)];rfl
  |succ i=>
   rw[Bk (by omega),hl,show(i+1)*19+j - 19=i*19+j by omega];exact ih i (by simpa using h)
def jR (w:World) (n:Nat) (l:List ae) (v:Value):Prop:=∃L:List (ae×Value),L.map (·.1)=l/\(∀x∈L,dB w n x.1.over x.2)/\w.ownsRow n 42 19 v L.length (fW L)
theorem rA {w w':World} {base size:Nat} {e:TypeId} {v:Value} {n:Nat} {xs:List Value} (h:w.ownsRow base e size v n xs) (hb:Below w.heap.size w w'):w'.ownsRow base e size v n xs:=by
 refine⟨h.1,?_⟩;rcases h.2 with hn|⟨g,cap,cur,hv,hbg,hg,rest⟩
 . exact .inl hn
 . exact .inr ⟨g,cap,cur,hv,hbg,(hb.block g (Ad.1 hg).1).trans hg,rest⟩
theorem Pg {w:World} {bk:Nat} {K:List (ar×(Value×ae))} (hm:aC w bk bT qv K) {d:ar} {x:Value×ae} (hx:aE K d=some x):(Instr.lookup 99 (.map (some bk)) (bT d) false).run Tryz.prog w= .ok x.1 w:=by
 rw[hm.lookup iF Tryz.underlying99 (z:=ic uQ (.slice none 0 0)) (by kernel_rfl) d false,hx];rfl
theorem HL:∃i0 z by0,Tryz.prog.info? 42=some i0/\i0.zero=some z/\i0.size=19/\i0.bytes=by0/\z.cells.size=19/\by0<=1000:=by
 have h:((Tryz.prog.info? 42).bind fun i=>i.zero.map fun z=>(i.size,Nat.ble i.bytes 1000,z.cells.size))=some (19,true,19):=by kernel_rfl
 cases e:Tryz.prog.info? 42 with
 |none=>rw[e]at h;cases h
 | some i=>
  rw[e]at h
  cases ez:i.zero with
  |none=>simp[ez]at h
  |some z=>
   simp only[DY,ez,Bh,A3,BP]at h;exact⟨i,z,_,rfl,ez,h.1,rfl,h.2.2,Al h.2.1⟩
theorem Zz (e:ae) (v:Value):Array.foldl (fun(cs:Array Value) (x:Value×Nat)=>cs.setIfInBounds x.2 x.1) #[.int .i64 0, .int .i64 0, .int .i64 0, .int .i64 0, .int .i64 0, .int .i64 0, .int .i64 0, .string ⟨#[]⟩, .string ⟨#[]⟩, .string ⟨#[]⟩, .string ⟨#[]⟩, .bool false, .bool false, .bool false, .bool false, .int .i64 0, .int .i64 0, .int .i64 0, .slice none 0 0] ((cY e v).toArray.zipIdx) 0 19=(cY e v).toArray:=by kernel_rfl
theorem Tryz.sorted {w:World} {n b bk ba bd bs bv:Nat} {G:bD} (h:cW w n b bk ba bd bs bv G) {l:List ar} {v:Value} (hd:cK w l v) (hl:l.length<=1000000) (f:ar->ae) (hf:∀d∈l,∃u,aE G.kept d=some (u,f d)) (hov:∀d∈l,(f d).over.length<=100000):
  Calls Tryz.prog 120 #[.pointer (some ⟨b,0,none⟩),v] w fun e w'=>∃v',e= .returned v'/\jR w' w.heap.size ((cz bI l).map f) v'/\Below w.heap.size w w':=by
 letI:Inhabited aL:=⟨⟨True,#[]⟩⟩
 have hsort:=G0 hd hl;go_enter Tryz.func120,Tryz.ntmps120
 go_wp2_with (go_at_call 156;refine hsort.mono ?_;rintro e w1 ⟨v1,rfl,hd1,hn1,hb1⟩;obtain⟨sa,sn,sc,rfl⟩:=hd1.one)
 have hsn:sn=(cz bI l).length:=by
  rcases hd1 with⟨h0,a,c,hh⟩|⟨_,_,_,_,_,_,hh,_⟩
  . cases hh;rw[h0];rfl
  . cases hh;rfl
 subst hsn;go_loopw [5,11] (fun v i wr=>∃(k:Nat) (L:List (ae×Value)),k<=(cz bI l).length/\i= .int .i64 k/\L.map (·.1)=((cz bI l).take k).map f/\(∀x∈L,dB wr w1.heap.size x.1.over x.2)/\wr.ownsRow w1.heap.size 42 19 v L.length (fW L)/\Below w1.heap.size w1 wr)
  (fun _ i _=>(cz bI l).length - (intOf i).toNat)
 case atStart=>exact⟨0,[],Au _,rfl,rfl,fun x hx=>absurd hx (by simp),World.ownsRow_nil _ _ _ _,Below.refl _ _⟩
 case round=>
  obtain⟨k,L,hk,rfl,hL,hLd,hrow,hbr1⟩:=hrel;have hbr:=hb1.trans (hbr1.mono hb1.size);have hsl:(cz bI l).length<=l.length:=by have:=rH (less:=bI) l [];simpa [cz]using this
  have hLl:L.length=k:=by
    have:=Ap List.length hL;simp only[A8,A5]at this;omega
  by_cases hlt:k<(cz bI l).length
  . obtain⟨d,hdk⟩:∃d,(cz bI l)[k]=d:=⟨_,rfl⟩;have hdl:d∈l:=by rw[<-rG (less:=bI),<-hdk];exact AI hlt
    obtain⟨u,hu⟩:=hf d hdl;have hev0:iP w u (f d):=h.ev _ ((zY h.ir.nd).1 hu);rcases hd1 with⟨h0,_⟩|⟨ob,off,cap,arr,ty,fz,hh,hob,hcap,hlen,hcells⟩
    . rw[h0]at hlt;exact absurd hlt (Bi _)
    . simp only[Value.slice.injEq]at hh;obtain⟨rfl, -,rfl⟩:=hh;obtain⟨x0,x1,x2⟩:=hcells k hlt;rw[hdk]at x0 x1 x2;have hobr:=(hbr1.block ob (Ad.1 hob).1).trans hob;have cell:∀{j:Nat} {u:Value},arr[j]? =some u->wr.cell? ⟨ob,j,none⟩=some u:=fun hx=>by
       unfold World.cell?;simp only[hobr,A2,Ao,AK];exact hx
      have c0:=cell x0;have c1:=cell x1;have c2:=cell x2;obtain⟨W,hW⟩:∃W,wr.alloc (.cells #[.int .i64 d.dev, .int .i64 d.inc, .int .i64 d.seq] 35)=W:=⟨_,rfl⟩;have hbW:Below wr.heap.size wr W:=by rw[<-hW];exact(Below.refl _ _).alloc (Ai _) _
      have hrowW:W.drew.ownsRow w1.heap.size 42 19 u5 L.length (fW L):=by rw[<-hW];exact hrow.alloc _
      have d0:W.cell? ⟨wr.heap.size,0,none⟩=some (.int .i64 d.dev):=by rw[<-hW];simp
      have d1:W.cell? ⟨wr.heap.size,1,none⟩=some (.int .i64 d.inc):=by rw[<-hW];simp
      have d2:W.cell? ⟨wr.heap.size,2,none⟩=some (.int .i64 d.seq):=by rw[<-hW];simp
      have hB:Below w.heap.size w W.drew:=(hbr.trans (hbW.mono hbr.size)).drew;have hmb:=iA h.c0;have d3:W.cell? ⟨b,0,none⟩=some (.map (some bk)):=eg h.c0 (hB.block b hmb);have hmW:aC W.drew bk bT qv G.kept:=h.ir.same (hB.block _ (Go.Gm.aC.lt h.ir));have hlk:=Pg hmW hu;have hcl:=G1 (hev0.cells (ep hB)) (hov d hdl);rw[show bT d= .agg #[.int .i64 d.dev, .int .i64 d.inc, .int .i64 d.seq]from rfl]at hlk;obtain⟨i0,z0,by0,hi,hz0,hz1,hz2,hz3,hz4⟩:=HL;have hWs:wr.heap.size<W.heap.size:=by rw[<-hW];simp
      have hL1:L.length+1<=1000001:=by omega
      have hbyt:(L.length+1)*by0<=140737488355328:=Aq (EV hL1 hz4) (by decide);have hmax:L.length+1<=maxLen:=by unfold maxLen;omega
      clear hmW hev0 hcells cell hob hobr x0 x1 x2;simp only[]at hlk;go_wp2;go_region_held3 (fun w'=>w'.cell? ⟨b,0,none⟩=some (.map (some bk))/\w'.cell? ⟨wr.heap.size,0,none⟩=some (.int .i64 d.dev)/\w'.cell? ⟨wr.heap.size,1,none⟩=some (.int .i64 d.inc)/\w'.cell? ⟨wr.heap.size,2,none⟩=some (.int .i64 d.seq)) (simp[*])
       (first
         |(go_at_call 70;(refine hcl.mono ?_;rintro e' w6 ⟨u',rfl,⟨v',hu',hd6⟩,hb6⟩;have e3:=eg d3 (hb6.block _ (by(have:=hbr.size;show b<W.heap.size;omega)));have e0:=eg d0 (hb6.block _ hWs);have e1:=eg d1 (hb6.block _ hWs);have e2:=eg d2 (hb6.block _ hWs);have hone:∀u∈cY (f d) v',u.oneCell'=true:=za (by(obtain⟨_,_,_,hh⟩:=hd6.one;rw[hh];rfl));obtain⟨cs,hcs⟩:∃cs:Array Value,(cY (f d) v').toArray=cs:=⟨_,rfl⟩;have hcz:cs.size=19:=(by(rw[<-hcs];rfl));have hu2:u'= .agg cs:=(by(rw[hu',<-hcs];rfl));clear hu';subst hu2;have hfo:=Zz (f d) v';have hra:(w6.alloc (.cells (cY (f d) v').toArray 42)).rangeAt w6.heap.size 0 (cY (f d) v'):=tO w6 (f d) v';rw[hcs]at hfo hra;have hnl:(cY (f d) v').length=1*19:=rfl;obtain⟨nw,hnw⟩:∃nw,cY (f d) v'=nw:=⟨_,rfl⟩;rw[hnw]at hone hcs hra hnl;obtain⟨W7,hW7⟩:∃W7,w6.alloc (.cells cs 42)=W7:=⟨_,rfl⟩;rw[hW7]at hra;have hnc:∀j u,nw[j]? =some u->W7.cell? ((⟨w6.heap.size,0,none⟩:Addr).add j)=some u:=(fun j u hj=>by(rw[Addr.add_mid];exact hra j u hj));have s6:=hb6.size;have s7:W7.heap.size=w6.heap.size+1:=(by(subst hW7;exact Dk _));have hb7:Below w6.heap.size w6 W7:=(by(rw[<-hW7];exact(Below.refl _ _).alloc (Ai _) _));have g3:=eg e3 (hb7.block _ (iA e3));have g0:=eg e0 (hb7.block _ (iA e0));have g1:=eg e1 (hb7.block _ (iA e0));have g2:=eg e2 (hb7.block _ (iA e0));have hrow7:=rA (rA hrowW hb6) hb7))
         |((refine QH rfl (.tmp 15) (.tmp 23) 22 rfl w1.heap.size 42 i0 z0 19 by0 Tryz.underlying22 hi hz0 hz1 hz2 hz3 (by decide) u5 L.length (fW L) rfl hrow7 ⟨w6.heap.size,0,none⟩ 1 1 nw rfl hnl hnc hone hmax hbyt (by(have:=hbr1.size;show w1.heap.size<=W7.heap.size;have h6:W.heap.size<=w6.heap.size:=s6;omega)) ?_;intro v8 w8 hrow8 hg8;have k3:=eg g3 (hg8.block _ (iA g3) (fun e=>by(have:=(hrow.lt b e.symm).1;have:=hb1.size;omega)));have hne8:some wr.heap.size≠u5.ownBlock:=(fun e=>by(have:=(hrow.lt _ e.symm).2;omega));have k0:=eg g0 (hg8.block _ (iA g0) hne8);have k1:=eg g1 (hg8.block _ (iA g0) hne8);have k2:=eg g2 (hg8.block _ (iA g0) hne8))))
      have hno:∀(b':Nat) (arr':Array Value),W7.heap[b']? =some (.cells arr' 35 (0,0))->w8.heap[b']? =W7.heap[b']? :=fun b' arr' hx=>by
       refine hg8.block b' (Ad.1 hx).1 fun e=>?_
       rcases ownsRow_ne_a hrow7 hx (fun cur e=>by have:=(Obj.cells.inj e).2.1;exact absurd this (by decide))with hh|hh
       . rw[hh]at e;cases e
       . exact hh e.symm
      have hn8:dB w8 w1.heap.size (f d).over v':=(hd6.mono (by have:=hbr1.size;show w1.heap.size<=W.heap.size;omega)).aW fun b' arr' _ hx=>by
       have h7:=hb7.block b' (Ad.1 hx).1;exact(hno b' arr' (h7.trans hx)).trans h7
      have ho8:∀x∈L,dB w8 w1.heap.size x.1.over x.2:=fun x hx=>(hLd x hx).aW fun b' arr' _ hb'=>by
       have hlt':=(Ad.1 hb').1;have h7:W7.heap[b']? =wr.heap[b']? :=((hb7.block b' (by have h6:W.heap.size<=w6.heap.size:=s6;omega)).trans (hb6.block b' (show b'<W.heap.size by omega))).trans (hbW.block b' hlt');exact(hno b' arr' (h7.trans hb')).trans h7
      have hB8:Below w1.heap.size w1 w8:=by
       have h1:=hbr1.size;have h6:W.heap.size<=w6.heap.size:=s6;exact(((hbr1.trans (hbW.mono h1)).drew.trans (hb6.mono (show w1.heap.size<=W.heap.size by omega))).trans (hb7.mono (by omega))).grown hg8 (by omega) (fun k e=>(hrow.lt k e).1)
      go_wp2;go_roundw
      case rel=>
       refine⟨k+1,L++[(f d,v')],hlt,by go_num,?_,?_,?_,hB8⟩
       . rw[AL,hL,EX,Af hlt,hdk,AL];rfl
       . intro x hx;rcases A7.1 hx with hx|hx
         . exact ho8 x hx
         . rw[BE.1 hx];exact hn8
       . rw[JT,AU];show w8.ownsRow w1.heap.size 42 19 v8 (L.length+1) (fW L++cY (f d) v')
         rw[hnw];exact hrow8
      case measure=>simp[intOf];omega
  . have hkl:k=(cz bI l).length:=by omega
    subst hkl;rw[Bu]at hL;go_wp2;go_ret;refine⟨_,rfl,⟨L,hL,fun x hx=>(hLd x hx).mono hb1.size,hrow.1,?_⟩,hbr⟩;rcases hrow.2 with hn|⟨g,cap,cur,hv,hbg,rest⟩
    . exact .inl hn
    . exact .inr ⟨g,cap,cur,hv,Aq hb1.size hbg,rest⟩
theorem jR.mono {w:World} {n m:Nat} {l:List ae} {v:Value} (h:jR w n l v) (hm:m<=n):jR w m l v:=by
 obtain⟨L,h1,h2,h3,h4⟩:=h;refine⟨L,h1,fun x hx=>(h2 x hx).mono hm,h3,?_⟩;rcases h4 with hn|⟨g,cap,cur,hv,hbg,rest⟩
 . exact .inl hn
 . exact .inr ⟨g,cap,cur,hv,Aq hm hbg,rest⟩
theorem Qf {w:World} {n b bk ba bd bs bv:Nat} {G:bD} (h:cW w n b bk ba bd bs bv G) (k:aA) {j:Nat} {I:DL} (hj:aE G.alive k=some (j,I)) (f:ar->ae) (hI:I.length<=1000000)
  (hf:∀d∈I.map (·.1),∃u,aE G.kept d=some (u,f d)) (hov:∀d∈I.map (·.1),(f d).over.length<=100000):
  Calls Tryz.prog 78 #[.pointer (some ⟨b,0,none⟩),dw k] w fun e w'=>∃v',e= .returned v'/\jR w' w.heap.size ((cz bI (I.map (·.1))).map f) v'/\Below w.heap.size w w':=by
 letI:Inhabited aL:=⟨⟨True,#[]⟩⟩
 obtain⟨i0,hi,hz0,hz1,hz2⟩:=HK;have hmI:aC w j bT cN I:=h.mi _ ((zY h.ma.nd).1 hj);obtain⟨W,hW⟩:∃W,w.alloc (.cells #[.string ⟨k.name.toArray⟩, .string ⟨k.domain.toArray⟩, .string ⟨k.path.toArray⟩] 24)=W:=⟨_,rfl⟩;have hbW:Below w.heap.size w W:=by rw[<-hW];exact(Below.refl _ _).alloc (Ai _) _
 have sW:W.heap.size=w.heap.size+1:=by subst hW;exact Dk _
 have d0:W.cell? ⟨w.heap.size,0,none⟩=some (.string ⟨k.name.toArray⟩):=by rw[<-hW];simp
 have d1:W.cell? ⟨w.heap.size,1,none⟩=some (.string ⟨k.domain.toArray⟩):=by rw[<-hW];simp
 have d2:W.cell? ⟨w.heap.size,2,none⟩=some (.string ⟨k.path.toArray⟩):=by rw[<-hW];simp
 have hB:Below w.heap.size w W.drew:=hbW.drew;have d3:W.cell? ⟨b,1,none⟩=some (.map (some ba)):=eg h.c1 (hB.block b (iA h.c1));have hmW:aC W.drew ba dw oE G.alive:=h.ma.same (hB.block _ (Go.Gm.aC.lt h.ma));have hlk:=jF hmW k;rw[hj,show dw k= .agg #[.string ⟨k.name.toArray⟩, .string ⟨k.domain.toArray⟩, .string ⟨k.path.toArray⟩]from rfl,Bh]at hlk;have hmIW:aC W.drew j bT cN I:=hmI.same (hB.block _ (Go.Gm.aC.lt hmI));obtain⟨W1,hrg,hit,hb1,hs1⟩:=hmIW.range Tryz.underlying101;rw[show W.drew.heap.size=W.heap.size from rfl]at hrg hit hs1;have hjl:=Go.Gm.aC.lt hmI;have hbl:=iA h.c1;have e3:=eg d3 (hb1.block b (show b<W.heap.size by omega));have e0:=eg d0 (hb1.block _ (show w.heap.size<W.heap.size by omega));have e1:=eg d1 (hb1.block _ (show w.heap.size<W.heap.size by omega));have e2:=eg d2 (hb1.block _ (show w.heap.size<W.heap.size by omega));have hB1:Below w.heap.size w W1:=hB.trans (hb1.mono (show w.heap.size<=W.heap.size by omega));rw[show dw k= .agg #[.string ⟨k.name.toArray⟩, .string ⟨k.domain.toArray⟩, .string ⟨k.path.toArray⟩]from rfl];clear hmW hmIW;go_enter Tryz.func78,Tryz.ntmps78
 go_wp2;go_region_held3 (fun w'=>w'.cell? ⟨b,1,none⟩=some (.map (some ba))/\w'.cell? ⟨w.heap.size,0,none⟩=some (.string ⟨k.name.toArray⟩)/\w'.cell? ⟨w.heap.size,1,none⟩=some (.string ⟨k.domain.toArray⟩)/\w'.cell? ⟨w.heap.size,2,none⟩=some (.string ⟨k.path.toArray⟩)) (simp[*]) (fail)
 rw[sW]at hit hs1;clear hrg e0 e1 e2 e3 d0 d1 d2 d3 hlk;go_wp2;go_loopw [5] (fun v wr=>∃(ss left:DL),cM wr (w.heap.size+1) j bT cN I ss left/\ss.length+left.length=I.length/\wr.ownsRow W1.heap.size 35 3 v ss.length (fG (ss.map (·.1)))/\Below w.heap.size w wr/\W1.heap.size<=wr.heap.size)
  (fun _ wr=>wr.rangeLeft j (w.heap.size+1))
 case atStart=>exact⟨[],I,hit,by simp,World.ownsRow_nil _ _ _ _,hB1,Ai _⟩
 case round=>
  obtain⟨ss,left,hrg,hcs,hrow,hbr,hbig⟩:=hrel;go_wp2_with (first
    |(at_next;refine Ic _ rfl _ rfl (w.heap.size+1) j rfl hrg ?_ ?_)
    |go_in)
  . intro hl0 hperm;have hpk:(ss.map (·.1)).Perm (I.map (·.1)):=hperm.map _;have hsl:(ss.map (·.1)).length<=1000000:=by rw[hpk.length_eq,A8];exact hI
    have hrow':wr.ownsRow W1.heap.size 35 3 u5 (ss.map (·.1)).length (fG (ss.map (·.1))):=by rw[A8];exact hrow
    have hcall:=Tryz.sorted (h.below hbr) (TH hrow') hsl f (fun d hd=>hf d (hpk.mem_iff.1 hd)) (fun d hd=>hov d (hpk.mem_iff.1 hd));go_wp2_with (go_at_call 120;refine hcall.mono ?_;rintro e w2 ⟨v2,rfl,hev,hb2⟩)
    go_ret;have heq:cz bI (ss.map (·.1))=cz bI (I.map (·.1)):=uw (vL _) fun x=>by rw[rG];exact hpk.mem_iff
    rw[heq]at hev;exact⟨_,rfl,hev.mono hbr.size,hbr.trans (hb2.mono hbr.size)⟩
  . intro d nn left' w2 hrg2 hlt hg2 hs2 hen;rw[show bT d= .agg #[.int .i64 d.dev, .int .i64 d.inc, .int .i64 d.seq]from rfl]at hen⊢;have hr0:=hrg.isWalk;have hrow2:w2.ownsRow W1.heap.size 35 3 u5 ss.length (fG (ss.map (·.1))):=hrow.kept (row:=some (w.heap.size+1)) ⟨hg2.os,hg2.tape,hg2.output,hg2.size,fun i hi hne=>hg2.block i hi fun e=>hne (by rw[e])⟩ (by
     obtain⟨o,ho,hw⟩:=hr0;exact ownsRow_ne_a hrow ho (fun cur e=>by rw[e]at hw;cases hw))
    have hb2:Below w.heap.size w w2:=hbr.trans ⟨hg2.os,hg2.tape,hg2.output,hg2.size,fun i hi=>hg2.block i (AP hi hbr.size) (by omega)⟩;obtain⟨X,hX⟩:∃X,(w2.alloc (.cells #[.int .i64 d.dev, .int .i64 d.inc, .int .i64 d.seq] 35)).alloc (.cells #[.int .i64 d.dev, .int .i64 d.inc, .int .i64 d.seq] 35)=X:=⟨_,rfl⟩;have hrow3:X.ownsRow W1.heap.size 35 3 u5 ss.length (fG (ss.map (·.1))):=by rw[<-hX];exact(hrow2.alloc _).alloc _
    have hk3:KeepsWalks w2 X:=by rw[<-hX];exact(KeepsWalks.alloc _ _).trans (KeepsWalks.alloc _ _)
    have hb3:Below w.heap.size w X:=by rw[<-hX];exact(hb2.alloc hb2.size _).alloc (by have:=hb2.size;simp;omega) _
    have hs3:X.heap.size=wr.heap.size+2:=by rw[<-hX];simp;omega
    have hnc:∀i u,([.int .i64 d.dev, .int .i64 d.inc, .int .i64 d.seq]:List Value)[i]? =some u->X.cell? ((⟨wr.heap.size+1,0,none⟩:Addr).add i)=some u:=fun i u hi=>by
     rw[Addr.add_lit,<-hX,show wr.heap.size+1=(w2.alloc (.cells #[.int .i64 d.dev, .int .i64 d.inc, .int .i64 d.seq] 35)).heap.size from by rw[<-hs2];exact(Dk _).symm];match i with
     |0=>cases hi;simp
     |1=>cases hi;simp
     |2=>cases hi;simp
     |_+3=>cases hi
    have hone:∀u∈([.int .i64 d.dev, .int .i64 d.inc, .int .i64 d.seq]:List Value),u.oneCell'=true:=by simp[Value.oneCell']
    have hlen:ss.length+1<=I.length:=by omega
    have hmax:ss.length+1<=maxLen:=by unfold maxLen;omega
    go_wp2_with (at_builtin;go_loud (refine wpList_append_own _ rfl _ _ 40 rfl W1.heap.size 35 i0 _ 3 24 Tryz.underlying40 hi hz0 hz1 hz2 rfl (by decide) _ _ _ rfl hrow3 ⟨wr.heap.size+1,0,none⟩ 1 1 [.int .i64 d.dev, .int .i64 d.inc, .int .i64 d.seq] rfl rfl hnc hone hmax (by omega) (by omega) ?_;intro v3 w3 hown hg3 hnil))
    have hrg3:=(hrg2.jk hk3).jk (KeepsWalks.of_grownBy hg3 (ownsRow_not_walk_a hrow3));have hs4:=hg3.size;go_roundw
    case rel=>exact⟨ss++[(d,nn)],left',hrg3,by simp;omega,by rw[AL,A4,EH,H6,AU];exact hown,hb3.grown hg3 hb3.size (fun k e=>Aq hB1.size (hrow3.lt k e).1),by omega⟩
    case measure=>rw[hrg3.left_eq,hrg.left_eq];omega
theorem Qg {w:World} {n b bk ba bd bs bv:Nat} {G:bD} (h:cW w n b bk ba bd bs bv G) (k:aA) (hj:aE G.alive k=none):
  Calls Tryz.prog 78 #[.pointer (some ⟨b,0,none⟩),dw k] w fun e w'=>∃v',e= .returned v'/\jR w' w.heap.size [] v'/\Below w.heap.size w w':=by
 letI:Inhabited aL:=⟨⟨True,#[]⟩⟩
 obtain⟨W,hW⟩:∃W,w.alloc (.cells #[.string ⟨k.name.toArray⟩, .string ⟨k.domain.toArray⟩, .string ⟨k.path.toArray⟩] 24)=W:=⟨_,rfl⟩;have hbW:Below w.heap.size w W:=by rw[<-hW];exact(Below.refl _ _).alloc (Ai _) _
 have sW:W.heap.size=w.heap.size+1:=by subst hW;exact Dk _
 have d0:W.cell? ⟨w.heap.size,0,none⟩=some (.string ⟨k.name.toArray⟩):=by rw[<-hW];simp
 have d1:W.cell? ⟨w.heap.size,1,none⟩=some (.string ⟨k.domain.toArray⟩):=by rw[<-hW];simp
 have d2:W.cell? ⟨w.heap.size,2,none⟩=some (.string ⟨k.path.toArray⟩):=by rw[<-hW];simp
 have hB:Below w.heap.size w W.drew:=hbW.drew;have d3:W.cell? ⟨b,1,none⟩=some (.map (some ba)):=eg h.c1 (hB.block b (iA h.c1));have hmW:aC W.drew ba dw oE G.alive:=h.ma.same (hB.block _ (Go.Gm.aC.lt h.ma));have hlk:=jF hmW k;rw[hj,show dw k= .agg #[.string ⟨k.name.toArray⟩, .string ⟨k.domain.toArray⟩, .string ⟨k.path.toArray⟩]from rfl,B6]at hlk;have hrg:=run_range_nilMap (P:=Tryz.prog) W.drew 101 _ _ Tryz.underlying101;have hbl:=iA h.c1;obtain⟨W1,hW1⟩:∃W1,W.drew.alloc (.mapIter none 0 #[] 0)=W1:=⟨_,rfl⟩;have hb1:Below W.heap.size W.drew W1:=by rw[<-hW1];exact(Below.refl W.drew.heap.size W.drew).alloc (Ai _) _
 have hnx:∀ty,(Instr.next (.pointer (some ⟨w.heap.size+1,0,none⟩)) false ty).run Tryz.prog W1= .ok (.tuple #[.bool false]) W1:=fun ty=>by
  have:=run_next_nilMap (P:=Tryz.prog) W.drew ty 0 0 #[];rw[show W.drew.heap.size=w.heap.size+1 from sW,hW1]at this;exact this
 rw[hW1]at hrg;have e3:=eg d3 (hb1.block b (show b<W.heap.size by omega));have e0:=eg d0 (hb1.block _ (show w.heap.size<W.heap.size by omega));have e1:=eg d1 (hb1.block _ (show w.heap.size<W.heap.size by omega));have e2:=eg d2 (hb1.block _ (show w.heap.size<W.heap.size by omega));have hB1:Below w.heap.size w W1:=hB.trans (hb1.mono (show w.heap.size<=W.heap.size by omega));have hcall:=Tryz.sorted (h.below hB1) (l:=[]) (v:= .slice none 0 0) (.inl ⟨rfl,_,_,rfl⟩) (Au _) (fun _=>default) (fun d hd=>by cases hd) (fun d hd=>by cases hd);rw[show dw k= .agg #[.string ⟨k.name.toArray⟩, .string ⟨k.domain.toArray⟩, .string ⟨k.path.toArray⟩]from rfl];clear hmW;go_enter Tryz.func78,Tryz.ntmps78
 go_wp2;go_region_held3 (fun w'=>w'.cell? ⟨b,1,none⟩=some (.map (some ba))/\w'.cell? ⟨w.heap.size,0,none⟩=some (.string ⟨k.name.toArray⟩)/\w'.cell? ⟨w.heap.size,1,none⟩=some (.string ⟨k.domain.toArray⟩)/\w'.cell? ⟨w.heap.size,2,none⟩=some (.string ⟨k.path.toArray⟩)) (simp[*]) (fail)
 clear hrg e0 e1 e2 e3 d0 d1 d2 d3 hlk;go_wp2;go_loopw [5] (fun v wr=>v= .slice none 0 0/\wr=W1) (fun _ _=>0)
 case atStart=>exact⟨rfl,rfl⟩
 case round=>
  obtain⟨rfl,rfl⟩:=hrel;go_wp2_with (go_at_call 120;go_loud (refine hcall.mono ?_;rintro e w2 ⟨v2,rfl,hev,hb2⟩))
  go_ret;exact⟨_,rfl,hev.mono hB1.size,hB1.trans (hb2.mono hB1.size)⟩
theorem zQ {α:Type} [DecidableEq α]:∀{l m:List α},l.Nodup->(∀x∈l,x∈m)->l.length<=m.length
 |[],_,_,_=>Au _
 |x::l,m,hn,hs=>by
  have hx:=hs x Ar;obtain⟨hxl,hn'⟩:=B7.1 hn;have:=zQ (l:=l) (m:=m.erase x) hn' fun y hy=>(List.mem_erase_of_ne (fun e=>hxl (by rw[<-e];exact hy))).2 (hs y (AB _ hy))
  rw[List.length_erase_of_mem hx]at this;have:=List.length_pos_of_mem hx;rw[Az];omega
theorem U4 [Inhabited aL] {G:bD} {m:aK} (g:cV G m) {k:aA} {x:Nat×DL} (hx:aE G.alive k=some x) (hn:(x.2.map (·.1)).Nodup):x.2.length<=m.kept.length/\ ∀d∈x.2.map (·.1),∃e∈aU m k,e.dot=d:=by
 have hm:∀d∈x.2.map (·.1),∃e∈aU m k,e.dot=d:=fun d hd=>(g.al k d).1 ⟨x,hx,by
  cases e:aE x.2 d with
  |none=>exact absurd hd (bN.1 e)
  |some _=>rfl⟩
 refine⟨?_,hm⟩;have h1:(x.2.map (·.1)).length<=((aU m k).map (·.dot)).length:=zQ hn fun d hd=>by
  obtain⟨e,he,hed⟩:=hm d hd;exact Av.2 ⟨e,he,hed⟩
 rw[A8,A8]at h1;exact Aq h1 (Aq (AF _ _) (AF _ _))
theorem Tryz.key {w:World} {n b bk ba bd bs bv:Nat} {G:bD} {m:aK} (h:cW w n b bk ba bd bs bv G) (g:cV G m) (ok:fN m) (hov:∀e∈m.kept,e.over.length<=100000) (k:aA):
  Calls Tryz.prog 78 #[.pointer (some ⟨b,0,none⟩),dw k] w fun e w'=>∃v',e= .returned v'/\jR w' w.heap.size (aU m k) v'/\Below w.heap.size w w':=by
 letI:Inhabited aL:=⟨⟨True,#[]⟩⟩
 cases hj:aE G.alive k with
 | none=>
  have he:aU m k=[]:=by
   by_cases h0:aU m k=[]
   . exact h0
   . have:=(tZ g k).2 h0;rw[hj]at this;cases this
  rw[he];exact Qg h k hj
 | some x=>
  obtain⟨j,I⟩:=x;have hnd:(I.map (·.1)).Nodup:=(h.mi _ ((zY h.ma.nd).1 hj)).nd;obtain⟨hlen,hmem⟩:=U4 g hj hnd;have hfe:∀e∈aU m k,(((aE G.kept e.dot).map (·.2)).getD gQ)=e:=fun e he=>by
   obtain⟨v,hv⟩:=Ln g he;rw[hv];rfl
  have hdots:=U5 g (k:=k) (l:=I.map (·.1)) fun d=>by
   rw[g.al];exact⟨fun hd=>hmem d hd,fun⟨e,he,hed⟩=>by
     obtain⟨x,hx,hs⟩:=(g.al k d).2 ⟨e,he,hed⟩;rw[hj]at hx;cases hx;by_cases hd:d∈I.map (·.1)
     . exact hd
     . rw[bN.2 hd]at hs;cases hs⟩
  have hk:=Qf h k hj (fun d=>((aE G.kept d).map (·.2)).getD gQ) (by have:=ok.kept;have h2:I.length<=m.kept.length:=hlen;omega) (fun d hd=>by
     obtain⟨e,he,rfl⟩:=hmem d hd;obtain⟨v,hv⟩:=Ln g he;exact⟨v,by rw[hv];rfl⟩) (fun d hd=>by
     obtain⟨e,he,rfl⟩:=hmem d hd;show(((aE G.kept e.dot).map (·.2)).getD gQ).over.length<=100000
     rw[hfe e he];exact hov e (AE.1 (AE.1 he).1).1)
  rw[hdots,Dy]at hk;rw[show(aU m k).map ((fun d=>((aE G.kept d).map (·.2)).getD gQ) ∘ (·.dot))=aU m k by
   conv=>rhs;rw[<-Fm (aU m k)]
   exact Db fun e he=>hfe e he]at hk
  exact hk
end Go.Proofs
namespace Go.Proofs
open Go Go.Am Go.RowKit Go.Sy Go.Gm
theorem cW.pL {w w':World} {n b bk ba bd bs bv:Nat} {G:bD} (h:cW w n b bk ba bd bs bv G) (hb:eS (· =bv) w w') {V:List ((Int×Int)×Int)} (hm:aC w' bv eH cN V):cW w' n b bk ba bd bs bv {G with vec:=V}:=by
 obtain⟨n1,n2,n3,n4,n5,n6⟩:=h.ne;have hc:jJ w w':=hb.cells fun k hk=>by subst hk;exact aC.isMap h.mv
 have cc:∀{b o:Nat} {v:Value},w.cell? ⟨b,o,none⟩=some v->w'.cell? ⟨b,o,none⟩=some v:=fun hv=>eg hv (hb.block _ (iA hv) fun e=>vG hv (by rw[e];exact aC.isMap h.mv))
 exact⟨cc h.c0,cc h.c1,cc h.c2,cc h.c3,cc h.cv,h.ir.same (hb.block _ (aC.lt h.ir) n3),h.ma.same (hb.block _ (aC.lt h.ma) n5),h.md.same (hb.block _ (aC.lt h.md) n6),hm,fun x hx=>(h.mi x hx).same (hb.block _ (aC.lt (h.mi x hx)) (h.ru hx).2.2.2),h.nd,h.low,fun x hx=>(h.ev x hx).cells hc⟩
theorem yz {w:World} {bs bv:Nat} {L:List ((Int×Int)×Int)} (hs:w.cell? ⟨bs,0,none⟩=some (.map (some bv))) (hm:aC w bv eH cN L) (a i n:Int) (hd:fB ⟨a,i,n⟩=true):
    Calls Tryz.prog 66 #[.pointer (some ⟨bs,0,none⟩), .agg #[.int .i64 a, .int .i64 i, .int .i64 n]] w fun e w'=>e= .returned (.bool (decide (n<=ou L a i)))/\Below w.heap.size w w':=by
  have hc:=fun w=>HG a i n w
  rw[hd]at hc;have hbv:bv<w.heap.size:=aC.lt hm;have hbs:bs<w.heap.size:=iA hs;obtain⟨W,hW⟩:∃W,w.alloc (.cells #[.int .i64 a, .int .i64 i, .int .i64 n] 35)=W:=⟨_,rfl⟩;have hq:Below w.heap.size w W.drew:=by rw[<-hW];exact((Below.refl w.heap.size w).alloc (Ai _) _).drew
  have hsz:W.drew.heap.size=w.heap.size+1:=by rw[<-hW];simp
  have hn0:W.drew.cell? ⟨w.heap.size,0,none⟩=some (.int .i64 a):=by rw[<-hW];simp
  have hn1:W.drew.cell? ⟨w.heap.size,1,none⟩=some (.int .i64 i):=by rw[<-hW];simp
  have hn2:W.drew.cell? ⟨w.heap.size,2,none⟩=some (.int .i64 n):=by rw[<-hW];simp
  have hge:∀{x:World} (_:x.cell? ⟨bs,0,none⟩=some (.map (some bv))) (_:aC x bv eH cN L),Calls Tryz.prog 67 #[.pointer (some ⟨bs,0,none⟩), .agg #[.int .i64 a, .int .i64 i]] x fun e w'=>e= .returned (.int .i64 (ou L a i))/\Below x.heap.size x w':=fun h1 h2=>lM h1 h2 a i
  go_enter Tryz.func66,Tryz.ntmps66
  go_wp2_with fail
  go_region_with (first
   |(go_at_call 107;refine(hc _).mono ?_;rintro e w1 ⟨rfl,hb⟩;have hq1:=hq.trans (hb.mono (by rw[hsz];omega));have hs1:w1.cell? ⟨bs,0,none⟩=some (.map (some bv)):=(hq1.cell hbs).trans hs;have hm1:aC w1 bv eH cN L:=hm.same (hq1.block bv hbv);have hz1:=hb.size;have hb0:=(hb.cell (p:=⟨w.heap.size,0,none⟩) (by rw[hsz];show w.heap.size<_;omega)).trans hn0;have hb1:=(hb.cell (p:=⟨w.heap.size,1,none⟩) (by rw[hsz];show w.heap.size<_;omega)).trans hn1;have hb2:=(hb.cell (p:=⟨w.heap.size,2,none⟩) (by rw[hsz];show w.heap.size<_;omega)).trans hn2)
   |(go_at_call 67;refine(hge (by assumption) (by assumption)).mono ?_;rintro e w2 ⟨rfl,hc2⟩;have hq2:=hq1.trans (hc2.mono (by rw[hsz]at hz1;omega));have hc0:=(hc2.cell (p:=⟨w.heap.size,2,none⟩) (by rw[hsz]at hz1;show w.heap.size<_;omega)).trans hb2))
  all_goals (go_wp2)
  all_goals (go_ret)
  all_goals (exact⟨rfl,hq2⟩)
theorem fe {W:World} {bx m:Nat} {e:ae} {v:Value} {cs:Array Value} (r:W.rangeAt bx 0 (cY e v)) (hcs:Hid ((cY e v).toArray=cs)) (hm:Hid (m=19)):
  W.cell? ⟨bx,0,none⟩=some (.int .i64 e.dot.dev)/\W.cell? ⟨bx,1,none⟩=some (.int .i64 e.dot.inc)/\W.cell? ⟨bx,2,none⟩=some (.int .i64 e.dot.seq)/\W.cell? ⟨bx,6,none⟩=some (.int .i64 e.kind)/\W.cell? ⟨bx,18,none⟩=some v/\
   (loadCellsFrom ⟨bx,0,none⟩ 0 m #[]).run Tryz.prog W= .ok cs W:=by
 have h1:=Gj r;rw[show(cY e v).toArray=cs from hcs,<-(show m=19 from hm)]at h1;exact⟨r 0 _ rfl,r 1 _ rfl,r 2 _ rfl,r 6 _ rfl,r 18 _ rfl,h1⟩
theorem Om {w:World} {n b bk ba bd bs bv:Nat} {G:bD} {m:aK} {e:ae} {u:Value} (h:cW w n b bk ba bd bs bv G) (hg:cV G m) (hu:iP w u e) (hse:kY e) (hl:G.kept.length<=100000) (hseq:∀a i,0<=getM m.ctx a i/\getM m.ctx a i<=4294967296)
   (hno:(eo m e).2.1=false):
   Calls Tryz.prog 15 #[.pointer (some ⟨b,0,none⟩),u] w fun e' w'=>e'= .returned (.tuple #[.bool false, .int .i64 (eo m e).2.2])/\(eo m e).1=m/\Below w.heap.size w w':=by
 obtain⟨v,hu,hd⟩:=hu;obtain⟨cs,hcs⟩:∃cs:Array Value,Hid ((cY e v).toArray=cs):=⟨_,rfl⟩;have hu':u= .agg cs:=by rw[hu,<-(show(cY e v).toArray=cs from hcs)];rfl
 have hev0:iP w (.agg cs) e:=⟨v,by rw[<-hu',hu],hd⟩;clear hu;subst hu';obtain⟨SZ,mm,hSZ,hsz,hm⟩:=uc;obtain⟨W,hW⟩:∃W,w.alloc (.cells cs 42)=W:=⟨_,rfl⟩;have hb:Below w.heap.size w W:=by rw[<-hW];exact(Below.refl w.heap.size w).alloc (Ai _) _
 have hs:W.heap.size=w.heap.size+1:=by rw[<-hW];simp
 have hr:W.rangeAt w.heap.size 0 (cY e v):=by rw[<-hW,<-(show(cY e v).toArray=cs from hcs)];exact tO w e v
 have h0 :=h.below hb;have hright:=G3 (hev0.cells (ep hb)) hse;obtain⟨k0,k1,k2,k6,k18,kl⟩:=fe hr hcs hm;have hA:(∃z,eo m e=(m,false,z)):=by
   unfold eo at hno⊢;split
   . exact⟨_,rfl⟩
   . rw[Aj ‹_›]at hno;split
     . exact⟨_,rfl⟩
     . rw[Aj ‹_›]at hno;split
       . exact⟨_,rfl⟩
       . rw[Aj ‹_›]at hno;split
         . exact⟨_,rfl⟩
         . rw[Aj ‹_›]at hno;cases hno
 obtain⟨z,hA⟩:=hA;by_cases q1:gB e=false
 . have hz:z=1:=by have:eo m e=(m,false,1):=by{unfold eo;rw[An q1]};rw[this]at hA;cases hA;rfl
   rw[q1]at hright;rw[hA,hz];go_enter Tryz.func15,Tryz.ntmps15
   go_wp2_with (go_at_call 65;refine hright.mono ?_;rintro e' w1 ⟨rfl,hb1⟩;have hbf:=hb.trans (hb1.mono (by omega)))
   refine bodyPost_ret (results_tmp2 rfl _ _ _) rfl ?_;exact⟨rfl,trivial,hbf⟩
 have q1':gB e=true:=by simpa using q1
 rw[q1']at hright;letI:Inhabited aL:=⟨⟨True,#[]⟩⟩
 have hdot:fB e.dot=true:=wv q1';have hhas0:decide (e.dot.seq<=ou G.vec e.dot.dev e.dot.inc)=eX m.ctx e.dot:=by
   unfold eX;rw[hdot,Bp,fi,hg.vec]
 by_cases q2:eX m.ctx e.dot=true
 . have hz:z=0:=by have:eo m e=(m,false,0):=by{unfold eo;rw[Aj q1,An q2]};rw[this]at hA;cases hA;rfl
   have hhas:=hhas0.trans q2;rw[hA,hz];clear q1 q1' hhas0 q2 hA hno hev0 h hse;go_enter Tryz.func15,Tryz.ntmps15
   go_wp2_with (go_at_call 65;refine hright.mono ?_;rintro e' w1 ⟨rfl,hb1⟩;have hbf1:=hb.trans (hb1.mono (by omega));have h1:=h0.below hb1;have r1:=fZ (ep hb1) hr;obtain⟨a0,a1,a2,a6,a18,al⟩:=fe r1 hcs hm;have a3:=h1.c3;have h1d:=h1.below (Below.refl w1.heap.size w1).drew;have hv1:=yz h1d.cv h1d.mv e.dot.dev e.dot.inc e.dot.seq hdot;rw[hhas]at hv1;clear k0 k1 k2 k6 k18 kl h1d)
   go_region_held3 (fun w'=>w'.cell? ⟨b,3,none⟩=some (.pointer (some ⟨bs,0,none⟩))/\w'.cell? ⟨w.heap.size,0,none⟩=some (.int .i64 e.dot.dev)/\w'.cell? ⟨w.heap.size,1,none⟩=some (.int .i64 e.dot.inc)/\w'.cell? ⟨w.heap.size,2,none⟩=some (.int .i64 e.dot.seq)) (simp[*]) (first|(go_at_call 66;refine hv1.mono ?_;rintro e' w2 ⟨rfl,hb2⟩;have hbf2:=hbf1.drew.trans (hb2.mono (by have:=hbf1.size;show _<=w1.heap.size;omega));have h2:=(h1.below (Below.refl w1.heap.size w1).drew).below hb2;have r2:=fZ (ep hb2) (fZ (ep (Below.refl w1.heap.size w1).drew) r1);obtain⟨b0,b1,b2,b6,b18,bl⟩:=fe r2 hcs hm;have b3:=h2.c3;have h2d:=h2.below (Below.refl w2.heap.size w2).drew;have hv2:=lM h2d.cv h2d.mv e.dot.dev e.dot.inc;rw[show(aE G.vec (e.dot.dev,e.dot.inc)).getD 0=getM m.ctx e.dot.dev e.dot.inc from hg.vec _ _]at hv2;clear a0 a1 a2 a6 a18 al a3 hv1 h2d))
   all_goals go_wp2
   all_goals refine bodyPost_ret (results_tmp2 rfl _ _ _) rfl ?_
   all_goals exact⟨rfl,trivial,hbf2⟩
 have hhas:=hhas0.trans (by simpa using q2);by_cases q3:getM m.ctx e.dot.dev e.dot.inc+1≠e.dot.seq
 . have hz:z=6:=by have:eo m e=(m,false,6):=by{unfold eo;rw[Aj q1,Aj q2,An q3]};rw[this]at hA;cases hA;rfl
   have hwr:IntKind.i64.wrap (getM m.ctx e.dot.dev e.dot.inc+1)=getM m.ctx e.dot.dev e.dot.inc+1:=IntWalk.i64_in _ (by have:=hseq e.dot.dev e.dot.inc;omega);have hne:(e.dot.seq !=getM m.ctx e.dot.dev e.dot.inc+1)=true:=by simpa using fun h:e.dot.seq=_=>q3 h.symm
   rw[hA,hz];clear q1 q1' hhas0 q2 hA hno hev0 h hse q3;go_enter Tryz.func15,Tryz.ntmps15
   go_wp2_with (go_at_call 65;refine hright.mono ?_;rintro e' w1 ⟨rfl,hb1⟩;have hbf1:=hb.trans (hb1.mono (by omega));have h1:=h0.below hb1;have r1:=fZ (ep hb1) hr;obtain⟨a0,a1,a2,a6,a18,al⟩:=fe r1 hcs hm;have a3:=h1.c3;have h1d:=h1.below (Below.refl w1.heap.size w1).drew;have hv1:=yz h1d.cv h1d.mv e.dot.dev e.dot.inc e.dot.seq hdot;rw[hhas]at hv1;clear k0 k1 k2 k6 k18 kl h1d)
   go_region_held3 (fun w'=>w'.cell? ⟨b,3,none⟩=some (.pointer (some ⟨bs,0,none⟩))/\w'.cell? ⟨w.heap.size,0,none⟩=some (.int .i64 e.dot.dev)/\w'.cell? ⟨w.heap.size,1,none⟩=some (.int .i64 e.dot.inc)/\w'.cell? ⟨w.heap.size,2,none⟩=some (.int .i64 e.dot.seq)) (simp[*]) (first|(go_at_call 66;refine hv1.mono ?_;rintro e' w2 ⟨rfl,hb2⟩;have hbf2:=hbf1.drew.trans (hb2.mono (by have:=hbf1.size;show _<=w1.heap.size;omega));have h2:=(h1.below (Below.refl w1.heap.size w1).drew).below hb2;have r2:=fZ (ep hb2) (fZ (ep (Below.refl w1.heap.size w1).drew) r1);obtain⟨b0,b1,b2,b6,b18,bl⟩:=fe r2 hcs hm;have b3:=h2.c3;have h2d:=h2.below (Below.refl w2.heap.size w2).drew;have hv2:=lM h2d.cv h2d.mv e.dot.dev e.dot.inc;rw[show(aE G.vec (e.dot.dev,e.dot.inc)).getD 0=getM m.ctx e.dot.dev e.dot.inc from hg.vec _ _]at hv2;clear a0 a1 a2 a6 a18 al a3 hv1 h2d))
   all_goals go_wp2_with fail
   all_goals go_region_held3 (fun w'=>w'.cell? ⟨b,3,none⟩=some (.pointer (some ⟨bs,0,none⟩))/\w'.cell? ⟨w.heap.size,0,none⟩=some (.int .i64 e.dot.dev)/\w'.cell? ⟨w.heap.size,1,none⟩=some (.int .i64 e.dot.inc)/\w'.cell? ⟨w.heap.size,2,none⟩=some (.int .i64 e.dot.seq)) (simp[*]) (first|(go_at_call 67;refine hv2.mono ?_;rintro e' w3 ⟨rfl,hb3⟩;have hbf3:=hbf2.drew.trans (hb3.mono (by have:=hbf2.size;show _<=w2.heap.size;omega));have h3:=(h2.below (Below.refl w2.heap.size w2).drew).below hb3;have hv3:=Tryz.room h3 hl;  have r3:=fZ (ep hb3) (fZ (ep (Below.refl w2.heap.size w2).drew) r2);obtain⟨c0,c1,c2,c6,c18,cl⟩:=fe r3 hcs hm;have c3:=h3.c3;clear b0 b1 b2 b6 b18 bl b3 hv2))
   all_goals go_wp2
   all_goals refine bodyPost_ret (results_tmp2 rfl _ _ _) rfl ?_
   all_goals exact⟨rfl,trivial,hbf3⟩
 have q3':getM m.ctx e.dot.dev e.dot.inc+1=e.dot.seq:=by simpa using q3
 have q4:2048<=m.kept.length:=by
   apply Bf;intro q4;unfold eo at hno;rw[Aj q1,Aj q2,Aj q3,Aj q4]at hno
   cases hno
 have hz:z=9:=by have:eo m e=(m,false,9):=by{unfold eo;rw[Aj q1,Aj q2,Aj q3,An q4]};rw[this]at hA;cases hA;rfl
 have hwr:IntKind.i64.wrap (getM m.ctx e.dot.dev e.dot.inc+1)=getM m.ctx e.dot.dev e.dot.inc+1:=IntWalk.i64_in _ (by have:=hseq e.dot.dev e.dot.inc;omega);have hne:(e.dot.seq !=getM m.ctx e.dot.dev e.dot.inc+1)=false:=by rw[q3'];simp
 have hroom:decide (1<=2048 - (G.kept.length:Int))=false:=Bq (by rw[hg.len];omega);rw[hA,hz];clear q1 q1' hhas0 q2 hA hno hev0 h hse q3 q3' q4;go_enter Tryz.func15,Tryz.ntmps15
 go_wp2_with (go_at_call 65;refine hright.mono ?_;rintro e' w1 ⟨rfl,hb1⟩;have hbf1:=hb.trans (hb1.mono (by omega));have h1:=h0.below hb1;have r1:=fZ (ep hb1) hr;obtain⟨a0,a1,a2,a6,a18,al⟩:=fe r1 hcs hm;have a3:=h1.c3;have h1d:=h1.below (Below.refl w1.heap.size w1).drew;have hv1:=yz h1d.cv h1d.mv e.dot.dev e.dot.inc e.dot.seq hdot;rw[hhas]at hv1;clear k0 k1 k2 k6 k18 kl h1d)
 go_region_held3 (fun w'=>w'.cell? ⟨b,3,none⟩=some (.pointer (some ⟨bs,0,none⟩))/\w'.cell? ⟨w.heap.size,0,none⟩=some (.int .i64 e.dot.dev)/\w'.cell? ⟨w.heap.size,1,none⟩=some (.int .i64 e.dot.inc)/\w'.cell? ⟨w.heap.size,2,none⟩=some (.int .i64 e.dot.seq)) (simp[*]) (first|(go_at_call 66;refine hv1.mono ?_;rintro e' w2 ⟨rfl,hb2⟩;have hbf2:=hbf1.drew.trans (hb2.mono (by have:=hbf1.size;show _<=w1.heap.size;omega));have h2:=(h1.below (Below.refl w1.heap.size w1).drew).below hb2;have r2:=fZ (ep hb2) (fZ (ep (Below.refl w1.heap.size w1).drew) r1);obtain⟨b0,b1,b2,b6,b18,bl⟩:=fe r2 hcs hm;have b3:=h2.c3;have h2d:=h2.below (Below.refl w2.heap.size w2).drew;have hv2:=lM h2d.cv h2d.mv e.dot.dev e.dot.inc;rw[show(aE G.vec (e.dot.dev,e.dot.inc)).getD 0=getM m.ctx e.dot.dev e.dot.inc from hg.vec _ _]at hv2;clear a0 a1 a2 a6 a18 al a3 hv1 h2d))
 all_goals go_wp2_with fail
 all_goals go_region_held3 (fun w'=>w'.cell? ⟨b,3,none⟩=some (.pointer (some ⟨bs,0,none⟩))/\w'.cell? ⟨w.heap.size,0,none⟩=some (.int .i64 e.dot.dev)/\w'.cell? ⟨w.heap.size,1,none⟩=some (.int .i64 e.dot.inc)/\w'.cell? ⟨w.heap.size,2,none⟩=some (.int .i64 e.dot.seq)) (simp[*]) (first|(go_at_call 67;refine hv2.mono ?_;rintro e' w3 ⟨rfl,hb3⟩;have hbf3:=hbf2.drew.trans (hb3.mono (by have:=hbf2.size;show _<=w2.heap.size;omega));have h3:=(h2.below (Below.refl w2.heap.size w2).drew).below hb3;have hv3:=Tryz.room h3 hl;rw[hroom]at hv3;have r3:=fZ (ep hb3) (fZ (ep (Below.refl w2.heap.size w2).drew) r2);obtain⟨c0,c1,c2,c6,c18,cl⟩:=fe r3 hcs hm;have c3:=h3.c3;clear b0 b1 b2 b6 b18 bl b3 hv2))
 all_goals go_wp2_with (go_at_call 68;refine hv3.mono ?_;rintro e' w4 ⟨rfl,rfl⟩)
 all_goals refine bodyPost_ret (results_tmp2 rfl _ _ _) rfl ?_
 all_goals exact⟨rfl,trivial,hbf3⟩
theorem Wb {bk ba bd bv i j:Nat} {G:bD} {k:aA} {L:DL} {K:List (ar×(Value×ae))} {V:List ((Int×Int)×Int)} {N:Nat} (hal:aE G.alive k=none) (hj:N<=j) (hi:i<N) (h:dW bk ba bd bv ⟨K,cB G.alive k (j,L),G.dead,V⟩ i):dW bk ba bd bv G i:=by
 unfold dW at h⊢;rw[show(cB G.alive k (j,L)).map (fun x=>x.2.1)=G.alive.map (fun x=>x.2.1)++[j]from Iz hal]at h;simp only[Ak,A7,BN,Dr]at h⊢;rcases h with h|h|h|h|h|h
 . exact .inl h
 . exact .inr (.inl h)
 . exact .inr (.inr (.inl h))
 . exact .inr (.inr (.inr (.inl h)))
 . exact .inr (.inr (.inr (.inr h)))
 . omega
theorem Wc {bk ba bd bv i j:Nat} {G:bD} {k:aA} {L L':DL} {K:List (ar×(Value×ae))} {V:List ((Int×Int)×Int)} (hn:(G.alive.map (·.1)).Nodup) (hal:aE G.alive k=some (j,L)) (h:dW bk ba bd bv ⟨K,cB G.alive k (j,L'),G.dead,V⟩ i):dW bk ba bd bv G i:=by
 unfold dW at h⊢;rw[show(cB G.alive k (j,L')).map (fun x=>x.2.1)=G.alive.map (fun x=>x.2.1)from uB hn hal rfl]at h;exact h
theorem RC {G:bD} (hn:(G.alive.map (·.1)).Nodup) (d:ar) {j:Nat} (h:j∈(ke G d).alive.map (·.2.1)):j∈G.alive.map (·.2.1):=by
 unfold ke at h;simp only at h;split at h
 . split at h
   . unfold nP at h;split at h
     . exact h
     . rename_i x hx;split at h
       . obtain⟨y,hy,rfl⟩:=Av.1 h;exact Av.2 ⟨y,(AE.1 hy).1,rfl⟩
       . rw[show(cB G.alive _ (x.1,dz x.2 d)).map (fun x=>x.2.1)=G.alive.map (fun x=>x.2.1)from uB hn hx rfl]at h;exact h
   . exact h
 . exact h
theorem IM {G:bD} {l:List ar} {k:Nat} (h:k<l.length):kH G (l.take (k+1))=ke (kH G (l.take k)) l[k]:=by
 unfold kH;rw[Aw h,EJ];rfl
theorem OQ {w:World} {n b bk ba bd bs bv:Nat} {G:bD} {m:aK} {e:ae} {u:Value} (h:cW w n b bk ba bd bs bv G) (hg:cV G m) (hn:n<=w.heap.size) (hu:iP w u e) (hse:kY e) (hover:e.over.length<=100000) (hseq:∀a i,0<=getM m.ctx a i/\getM m.ctx a i<=4294967296)
  (q1:gB e=true) (q2:eX m.ctx e.dot=false) (q3:getM m.ctx e.dot.dev e.dot.inc+1=e.dot.seq) (q4:¬2048<=m.kept.length):
  Calls Tryz.prog 15 #[.pointer (some ⟨b,0,none⟩),u] w fun e' w'=>e'= .returned (.tuple #[.bool true, .int .i64 0])/\eS (dW bk ba bd bv G) w w'/\ ∃G',cW w' n b bk ba bd bs bv G'/\cV G' (eo m e).1:=by
 obtain⟨v,hu,hd⟩:=hu;obtain⟨va,vn,vc,hve⟩:=hd.one;obtain⟨cs,hcs⟩:∃cs:Array Value,Hid ((cY e v).toArray=cs):=⟨_,rfl⟩;have hu':u= .agg cs:=by rw[hu,<-(show(cY e v).toArray=cs from hcs)];rfl
 have hev0:iP w (.agg cs) e:=⟨v,by rw[<-hu',hu],hd⟩;clear hu;subst hu';obtain⟨SZ,mm,hSZ,hsz,hm⟩:=uc;obtain⟨W,hW⟩:∃W,w.alloc (.cells cs 42)=W:=⟨_,rfl⟩;have hb:Below w.heap.size w W:=by rw[<-hW];exact(Below.refl w.heap.size w).alloc (Ai _) _
 have hs:W.heap.size=w.heap.size+1:=by rw[<-hW];simp
 have hr:W.rangeAt w.heap.size 0 (cY e v):=by rw[<-hW,<-(show(cY e v).toArray=cs from hcs)];exact tO w e v
 have h0:=h.below hb;have hright:=G3 (hev0.cells (ep hb)) hse;obtain⟨k0,k1,k2,k6,k18,kl⟩:=fe hr hcs hm;rw[q1]at hright;letI:Inhabited aL:=⟨⟨True,#[]⟩⟩
 have hdot:fB e.dot=true:=wv q1;have hhas:decide (e.dot.seq<=ou G.vec e.dot.dev e.dot.inc)=false:=by
  have hh:decide (e.dot.seq<=ou G.vec e.dot.dev e.dot.inc)=eX m.ctx e.dot:=by
   unfold eX;rw[hdot,Bp,fi,hg.vec]
  rw[hh,q2]
 have hwr:IntKind.i64.wrap (getM m.ctx e.dot.dev e.dot.inc+1)=getM m.ctx e.dot.dev e.dot.inc+1:=IntWalk.i64_in _ (by have:=hseq e.dot.dev e.dot.inc;omega);have hne:(e.dot.seq !=getM m.ctx e.dot.dev e.dot.inc+1)=false:=by rw[q3];simp
 have hl:G.kept.length<=100000:=by rw[hg.len];omega
 have hroom:decide (1<=2048 - (G.kept.length:Int))=true:=Bj (by rw[hg.len];omega);have hprev:(aE G.vec (e.dot.dev,e.dot.inc)).getD 0=e.dot.seq - 1:=by
  have:=hg.vec e.dot.dev e.dot.inc;unfold ou at this;rw[this];omega
 have hfin:=fun(v:Value) (nb:Nat)=>(hg.apply v nb q1 q2 q3 q4).1
 have hfinal:Hid (∀(v:Value) (nb:Nat),cV (qn G e v nb) (eo m e).1):=hfin;clear hfin;have hgv:=hg.vec;clear q1 q2 q3 q4 hg;go_enter Tryz.func15,Tryz.ntmps15
 go_wp2_with (go_at_call 65;refine hright.mono ?_;rintro e' w1 ⟨rfl,hb1⟩;have hbf1:=hb.trans (hb1.mono (by omega));have h1:=h0.below hb1;have r1:=fZ (ep hb1) hr;obtain⟨a0,a1,a2,a6,a18,al⟩:=fe r1 hcs hm;have a3:=h1.c3;have h1d:=h1.below (Below.refl w1.heap.size w1).drew;have hv1:=yz h1d.cv h1d.mv e.dot.dev e.dot.inc e.dot.seq hdot;rw[hhas]at hv1;have hev1:=(hev0.cells (ep hb)).cells (ep hb1);clear k0 k1 k2 k6 k18 kl h1d)
 go_region_held3 (fun w'=>w'.cell? ⟨b,3,none⟩=some (.pointer (some ⟨bs,0,none⟩))/\w'.cell? ⟨w.heap.size,0,none⟩=some (.int .i64 e.dot.dev)/\w'.cell? ⟨w.heap.size,1,none⟩=some (.int .i64 e.dot.inc)/\w'.cell? ⟨w.heap.size,2,none⟩=some (.int .i64 e.dot.seq)) (simp[*]) (first|(go_at_call 66;refine hv1.mono ?_;rintro e' w2 ⟨rfl,hb2⟩;have hbf2:=hbf1.drew.trans (hb2.mono (by have:=hbf1.size;show _<=w1.heap.size;omega));have h2:=(h1.below (Below.refl w1.heap.size w1).drew).below hb2;have r2:=fZ (ep hb2) (fZ (ep (Below.refl w1.heap.size w1).drew) r1);obtain⟨b0,b1,b2,b6,b18,bl⟩:=fe r2 hcs hm;have b3:=h2.c3;have h2d:=h2.below (Below.refl w2.heap.size w2).drew;have hv2:=lM h2d.cv h2d.mv e.dot.dev e.dot.inc;rw[show(aE G.vec (e.dot.dev,e.dot.inc)).getD 0=getM m.ctx e.dot.dev e.dot.inc from hgv _ _]at hv2;have hev2:iP w2 (.agg cs) e:=hev1.cells (fun bb arr t fz hx=>ep hb2 bb arr t fz hx);clear a0 a1 a2 a6 a18 al a3 hv1 h2d))
 all_goals go_wp2_with fail
 all_goals go_region_held3 (fun w'=>w'.cell? ⟨b,3,none⟩=some (.pointer (some ⟨bs,0,none⟩))/\w'.cell? ⟨w.heap.size,0,none⟩=some (.int .i64 e.dot.dev)/\w'.cell? ⟨w.heap.size,1,none⟩=some (.int .i64 e.dot.inc)/\w'.cell? ⟨w.heap.size,2,none⟩=some (.int .i64 e.dot.seq)) (simp[*]) (first|(go_at_call 67;refine hv2.mono ?_;rintro e' w3 ⟨rfl,hb3⟩;have hbf3:=hbf2.drew.trans (hb3.mono (by have:=hbf2.size;show _<=w2.heap.size;omega));have h3:=(h2.below (Below.refl w2.heap.size w2).drew).below hb3;have hv3:=Tryz.room h3 hl;rw[hroom]at hv3;have r3:=fZ (ep hb3) (fZ (ep (Below.refl w2.heap.size w2).drew) r2);obtain⟨c0,c1,c2,c6,c18,cl⟩:=fe r3 hcs hm;have c3:=h3.c3;have hev3:iP w3 (.agg cs) e:=hev2.cells (fun bb arr t fz hx=>ep hb3 bb arr t fz hx);clear b0 b1 b2 b6 b18 bl b3 hv2))
 all_goals go_wp2_with (go_at_call 68;refine hv3.mono ?_;rintro e' w4 ⟨rfl,rfl⟩;have h3d:=h3.below (Below.refl w4.heap.size w4).drew;have hv4:=O4 h3d.cv h3d.mv e.dot.dev e.dot.inc e.dot.seq (fun hh=>vG h3d.cv (by rw[hh];exact aC.isMap h3d.mv)) hdot hprev;clear hv3)
 all_goals go_region_held3 (fun w'=>w'.cell? ⟨b,3,none⟩=some (.pointer (some ⟨bs,0,none⟩))/\w'.cell? ⟨w.heap.size,0,none⟩=some (.int .i64 e.dot.dev)/\w'.cell? ⟨w.heap.size,1,none⟩=some (.int .i64 e.dot.inc)/\w'.cell? ⟨w.heap.size,2,none⟩=some (.int .i64 e.dot.seq)) (simp[*]) (first|(go_at_call 69;refine hv4.mono ?_;rintro e' w5 ⟨rfl,hb5,hmv5⟩;have h5:=h3d.pL hb5 hmv5;have hbut5:eS (dW bk ba bd bv G) w w5:=(lK hbf3.drew).trans (hb5.mono fun k _ hk=>by(rw[hk];unfold dW;simp));have hc5:jJ w4.drew w5:=hb5.cells (fun k hk=>by(rw[hk];exact aC.isMap h3d.mv));have r5:=fZ hc5 (fZ (ep (Below.refl w4.heap.size w4).drew) r3);obtain⟨d0,d1,d2,d6,d18,dl⟩:=fe r5 hcs hm;have d3:=h5.c3;have e0:=h5.c0;obtain⟨-, -, -, -, -,dl'⟩:=fe (fZ (ep (Below.refl w5.heap.size w5).drew) r5) hcs hm;have hev5:iP w5.drew (.agg cs) e:=hev3.cells (fun bb arr t fz hx=>hc5 bb arr t fz hx);have hv5:=P4 hev5 hover;clear c0 c1 c2 c6 c18 cl c3 hv4))
 all_goals go_wp2_with fail
 all_goals go_region_held3 (fun w'=>w'.cell? ⟨b,0,none⟩=some (.map (some bk))/\w'.cell? ⟨w.heap.size,0,none⟩=some (.int .i64 e.dot.dev)/\w'.cell? ⟨w.heap.size,1,none⟩=some (.int .i64 e.dot.inc)/\w'.cell? ⟨w.heap.size,2,none⟩=some (.int .i64 e.dot.seq)/\(loadCellsFrom ⟨w.heap.size,0,none⟩ 0 mm #[]).run Tryz.prog w'= .ok cs w') (simp[*]) (first|(go_at_call 70;refine hv5.mono ?_;rintro e' w6 ⟨u',rfl,hev6,hb6⟩;have h6:=(h5.below (Below.refl w5.heap.size w5).drew).below hb6;have r6:=fZ (ep hb6) (fZ (ep (Below.refl w5.heap.size w5).drew) r5);obtain⟨f0,f1,f2,f6,f18,fl⟩:=fe r6 hcs hm;have f3:=h6.c0;obtain⟨es,clk,hup,hmu⟩:=h6.ir.update iF Tryz.underlying99 e.dot (u',e);rw[show bT e.dot= .agg #[.int .i64 e.dot.dev, .int .i64 e.dot.inc, .int .i64 e.dot.seq]from rfl,show qv (u',e)=u' from rfl]at hup;have h7:=h6.oJ (x:=(u',e)) hev6 hmu;have hbut6:eS (dW bk ba bd bv G) w w6:=hbut5.drew.trans (lK hb6);have hbut7:eS (dW bk ba bd bv G) w (World.bc w6 bk (.map es clk)):=hbut6.trans (wX (aC.isMap h6.ir) (by(unfold dW;simp)));have r7:(World.bc w6 bk (.map es clk)).rangeAt w.heap.size 0 (cY e v):=fZ (Jm (aC.isMap h6.ir)) r6;obtain⟨W7,hW7⟩:∃W7,World.bc w6 bk (.map es clk)=W7:=⟨_,rfl⟩;rw[hW7]at hup h7 hbut7 r7;obtain⟨g0,g1,g2,g6,g18,gl⟩:=fe r7 hcs hm;have g3:=h7.c0;clear d0 d1 d2 d6 d18 dl d3 e0 hv5 hmu))
 rename_i Q0 K0 hK0 hS0;clear hS0;refine hK0 _ _ ?_;apply wp_seq_k;intro K1 hK1;go_cut []from 6 (fun wc=>eS (dW bk ba bd bv G) w wc/\(∃nb,cW wc n b bk ba bd bs bv (iB (gM G e u') e nb)/\ ∀i,i<w.heap.size->dW bk ba bd bv (iB (gM G e u') e nb) i->dW bk ba bd bv G i)/\wc.rangeAt w.heap.size 0 (cY e v))
 case rest=>
  obtain⟨hbutc,⟨nb,hc,hmc⟩,rc⟩:=hcut;have hmapsW:=h.maps;obtain⟨p0,p1,p2,p6,p18,pl⟩:=fe rc hcs hm;rw[hve]at p18;have hlenv:vn=e.over.length:=by
   rw[hve]at hd;rcases hd with⟨h0,a,c,hh⟩|⟨_,_,_,_,_,_,hh,_⟩
   . cases hh;rw[h0];rfl
   . cases hh;rfl
  subst hlenv;clear h h0 hr hright hev0;go_wp2;go_loopw [72] (fun i wr=>∃k:Nat,k<=e.over.length/\i= .int .i64 k/\eS (dW bk ba bd bv G) w wr/\cW wr n b bk ba bd bs bv (kH (iB (gM G e u') e nb) (e.over.take k))/\ ∀i,i<w.heap.size->dW bk ba bd bv (kH (iB (gM G e u') e nb) (e.over.take k)) i->dW bk ba bd bv G i)
   (fun i _=>e.over.length - (intOf i).toNat)
  case atStart=>exact⟨0,Au _,rfl,hbutc,by rw[DK];exact hc,by rw[DK];exact hmc⟩
  case round=>
   obtain⟨k,hk,rfl,hbr,hor,hmr⟩:=hrel;by_cases hlt:k<e.over.length
   . have hstay:jJ w wr:=hbr.cells hmapsW;rw[hve]at hd;rcases hd with⟨h0,_⟩|⟨ob,off,cap,arr,ty,fz,hh,hob,hcap,hlen,hcells⟩
     . rw[h0]at hlt;exact absurd hlt (Bi _)
     . simp only[Value.slice.injEq]at hh;obtain⟨rfl, -,rfl⟩:=hh;obtain⟨x0,x1,x2⟩:=hcells k hlt;have hobr:=hstay _ _ _ _ hob;have cell:∀{j:Nat} {u:Value},arr[j]? =some u->wr.cell? ⟨ob,j,none⟩=some u:=fun hx=>by
        unfold World.cell?;simp only[hobr,A2,Ao,AK];exact hx
       have c0:=cell x0;have c1:=cell x1;have c2:=cell x2;have hba:Below wr.heap.size wr (wr.alloc (.cells #[.int .i64 e.over[k].dev, .int .i64 e.over[k].inc, .int .i64 e.over[k].seq] 35)):=(Below.refl wr.heap.size wr).alloc (Ai _) _;have hkill:=Tryz.kill (hor.below hba) e.over[k];have hnda:=hor.ma.nd;have hwrs:=hbr.size;rw[show bT e.over[k]= .agg #[.int .i64 e.over[k].dev, .int .i64 e.over[k].inc, .int .i64 e.over[k].seq]from rfl]at hkill;clear hcells x0 x1 x2 cell hob hobr hstay hlen rc hc hbutc p0 p1 p2 p6 pl p18;go_wp2_with (go_at_call 73;refine hkill.mono ?_;rintro e' w9 ⟨rfl,hb9,h9⟩;have R1:eS (dW bk ba bd bv G) w w9:=(hbr.more (lK (S:=fun _=>False) hba) (fun _ _ h=>h.elim)).more hb9 (fun i hi hh=>hmr i hi hh);rw[<-IM hlt]at h9)
       go_roundw
       case rel=>
        refine⟨k+1,hlt,by go_num,R1,h9,fun i hi hh=>hmr i hi ?_⟩;rw[IM hlt]at hh;unfold dW at hh⊢;simp only[Ak]at hh⊢;rcases hh with hh|hh|hh|hh|hh
        . exact .inl hh
        . exact .inr (.inl hh)
        . exact .inr (.inr (.inl hh))
        . exact .inr (.inr (.inr (.inl hh)))
        . exact .inr (.inr (.inr (.inr (RC hnda _ hh))))
       case measure=>simp[intOf];omega
   . have hkl:k=e.over.length:=by omega
     subst hkl;rw[Bu]at hor;go_wp2;refine bodyPost_ret (results_tmp2 rfl _ _ _) rfl ?_;exact⟨rfl,hbr,_,hor,(show ∀(v:Value) (nb:Nat),cV (qn G e v nb) (eo m e).1 from hfinal) u' nb⟩
 case first=>
  have h7':cW W7 n b bk ba bd bs bv (gM G e u'):=h7;have hencv:ic e v= .agg cs:=by rw[<-(show(cY e v).toArray=cs from hcs)];rfl
  by_cases kd:e.kind=1
  case neg=>
   have hL:iB (gM G e u') e 0=gM G e u':=by unfold iB;rw[Aj (fun hh=>kd hh.1)]
   go_wp2;go_meet
   case rel=>exact⟨hbut7,⟨0,by rw[hL];exact⟨h7',fun _ _ hh=>hh⟩⟩,r7⟩
  case pos=>
   rw[kd]at g6;have hdead:=Tryz.dead h7' e.dot;rw[show bT e.dot= .agg #[.int .i64 e.dot.dev, .int .i64 e.dot.inc, .int .i64 e.dot.seq]from rfl,show(gM G e u').dead=G.dead from rfl]at hdead
   cases hdd:aE G.dead e.dot with
   | some z=>
     rw[hdd]at hdead;have hL:iB (gM G e u') e 0=gM G e u':=by
       unfold iB;rw[Aj (fun hh=>by have:=hh.2;rw[show(gM G e u').dead=G.dead from rfl,hdd]at this;cases this)]
     go_wp2_with (go_at_call 71;refine hdead.mono ?_;rintro e' w8 ⟨rfl,hb8⟩;have h8:=h7'.below hb8;have r8:=fZ (ep hb8) r7;have hbut8:=hbut7.more (lK (S:=fun _=>False) hb8) (fun _ _ h=>h.elim))
     go_meet
     case rel=>exact⟨hbut8,⟨0,by rw[hL];exact⟨h8,fun _ _ hh=>hh⟩⟩,r8⟩
   | none=>
     rw[hdd]at hdead
     cases hal:aE G.alive e.key with
     | none=>
       have hL:∀nb,iB (gM G e u') e nb={gM G e u' with alive:=cB G.alive e.key (nb,[(e.dot,1)])}:=fun nb=>by
        unfold iB pC;rw[An ⟨kd,hdd⟩,show(gM G e u').alive=G.alive from rfl,hal]
       go_wp2_with (first
        |(go_at_call 71;refine hdead.mono ?_;rintro e' w8 ⟨rfl,hb8⟩;have h8:=h7'.below hb8;have r8:=fZ (ep hb8) r7;have hbut8:=hbut7.more (lK (S:=fun _=>False) hb8) (fun _ _ h=>h.elim);obtain⟨j0,j1,j2,j6,yO,jl⟩:=fe r8 hcs hm;have hlive:=Od h8 (by have:=hbut8.size;omega) e v hal;rw[hencv]at hlive)
        |(go_at_call 72;refine hlive.mono ?_;rintro e' w9 ⟨rfl,hb9,nb,hnb,h9⟩;have r9:=fZ (hb9.cells h8.maps) r8;have hbut9:eS (dW bk ba bd bv G) w w9:=hbut8.trans hb9))
       go_meet
       case rel=>exact⟨hbut9,⟨nb,by rw[hL];exact⟨h9,fun i hi hh=>Wb hal (by have:=hbut8.size;omega) hi hh⟩⟩,r9⟩
     | some x=>
       obtain⟨jb,L⟩:=x;have hL:iB (gM G e u') e 0={gM G e u' with alive:=cB G.alive e.key (jb,cB L e.dot 1)}:=by
        unfold iB pC;rw[An ⟨kd,hdd⟩,show(gM G e u').alive=G.alive from rfl,hal]
       go_wp2_with (first
        |(go_at_call 71;refine hdead.mono ?_;rintro e' w8 ⟨rfl,hb8⟩;have h8:=h7'.below hb8;have r8:=fZ (ep hb8) r7;have hbut8:=hbut7.more (lK (S:=fun _=>False) hb8) (fun _ _ h=>h.elim);obtain⟨j0,j1,j2,j6,yO,jl⟩:=fe r8 hcs hm;have hlive:=Oe h8 e v hal;rw[hencv]at hlive)
        |(go_at_call 72;refine hlive.mono ?_;rintro e' w9 ⟨rfl,hb9,h9⟩;have r9:=fZ (hb9.cells h8.maps) r8;have hbut9:eS (dW bk ba bd bv G) w w9:=hbut8.trans hb9))
       go_meet
       case rel=>exact⟨hbut9,⟨0,by rw[hL];exact⟨h9,fun i hi hh=>Wc h.ma.nd hal hh⟩⟩,r9⟩
end Go.Proofs
