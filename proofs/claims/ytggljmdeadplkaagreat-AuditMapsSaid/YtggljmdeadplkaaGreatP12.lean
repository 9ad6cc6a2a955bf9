/- Part 12: an evaluator, proved sound, and its use at this seat; no condition. -/
import Derived.Deep.RegionHeld3
import Derived.Deep.Cut
import Derived.Test.YtggljmdeadplkaaGreatP11
set_option linter.unusedSimpArgs false
set_option linter.unusedVariables false
set_option linter.unusedSectionVars false
set_option linter.deprecated false
set_option maxRecDepth 100000
set_option maxHeartbeats 8000000
namespace Go.Proofs
open Go Go.Am Go.RowKit Go.Sy Go.Gm
section
theorem Pu (d:ak) (w:World):(Builtin.delete_ #[107,71] 0 #[.map none,aX d]).run Tryz.prog w= .ok (.tuple #[]) w:=by
 have h:(Instr.checkKey true 10000 71 (aX d)).run Tryz.prog w= .ok () w:=fJ.gA true d w;unfold Builtin.delete_;simp[run_underlying Tryz.underlying107,h]
section
variable {K V:Type} [DecidableEq K]
theorem LQ {A:List (K×V)} {k:K} (h:az A k=none):cS A k=A:=by
 unfold cS;rw[BY];intro x hx;simp only[AA,Ag];rintro rfl;exact bI.1 h (Ar.2 ⟨x,hx,rfl⟩)
theorem M7 (A:List (K×V)) (k:K) (v:V):cS (bN A k v) k=cS A k:=by
 have key:∀A:List (K×V),(A.map fun x=>if k=x.1 then(k,v)else x).filter (fun x=> !decide (k=x.1))=A.filter fun x=> !decide (k=x.1):=by
   intro A;induction A with
   |nil=>rfl
   |cons x A ih=>
    rw[AZ,B0,B0,ih];by_cases e:k=x.1<;>simp[e]
 unfold bN cS;split
 . exact key A
 . rw[DH];simp
end
theorem tP {S:Nat->Prop} {w:World} {j:Nat} {o:Obj} (hm:jO w j) (hS:S j):dZ S w (World.aJ w j o):=⟨rfl,rfl,rfl,by simp[World.aJ],fun k _ hk=>fi hm fun e=>hk (by rw[e];exact hS)⟩
theorem Tryz.kill {w:World} {n b bk ba bd bs bv:Nat} {G:bC} (h:cB w n b bk ba bd bs bv G) (d:ak):
  Calls Tryz.prog 68 #[.pointer (some ⟨b,0,none⟩),aX d] w fun e' w'=>e'= .returned (.tuple #[])/\dZ (dx bk ba bd bv G) w w'/\cB w' n b bk ba bd bs bv (iN G d):=by
 obtain⟨e,v,is,hv,hk,his,hG⟩:∃(e:ae) (v:Value) (is:Bool),v.oneCell'=true/\((az G.kept d).map (·.1)).getD (fM kK (.slice none 0 0))=fM e v/\(az G.kept d).isSome=is/\
   iN G d={G with dead:=bN G.dead d 1,alive:=if is=true/\e.kind=1 then lX G.alive e.key d else G.alive}:=by
  cases hg:az G.kept d with
  |none=>exact⟨kK, .slice none 0 0,false,rfl,rfl,rfl,by unfold iN;rw[hg];simp⟩
  |some x=>
   obtain⟨v,hx,hd⟩:=h.ev _ (jJ hg);refine⟨x.2,v,true,?_,hx,rfl,by unfold iN;rw[hg];simp⟩;rcases hd with⟨_,a,c,rfl⟩|⟨_,_,_,_,_,_,rfl,_⟩<;>rfl
 obtain⟨G2,hG2⟩:∃G2,iN G d=G2:=⟨_,rfl⟩;rw[hG2]at hG⊢;obtain⟨W,hW⟩:∃W,(w.alloc (.cells #[.int .i64 d.dev, .int .i64 d.inc, .int .i64 d.seq] 71))=W:=⟨_,rfl⟩;have hb:Below w.heap.size w W:=by rw[<-hW];exact(Below.refl w.heap.size w).alloc (Aj _) _
 have h0:=h.below hb;have d0:W.cell? ⟨w.heap.size,0,none⟩=some (.int .i64 d.dev):=by rw[<-hW];simp
 have d1:W.cell? ⟨w.heap.size,1,none⟩=some (.int .i64 d.inc):=by rw[<-hW];simp
 have d2:W.cell? ⟨w.heap.size,2,none⟩=some (.int .i64 d.seq):=by rw[<-hW];simp
 have hsz:W.heap.size=w.heap.size+1:=by rw[<-hW];simp
 have h1:=h0.below (Below.refl W.heap.size W).drew;have c2:=h0.c2;obtain⟨es,clk,hu,hmu⟩:=h1.md.update fJ Tryz.underlying107 d 1;have h2:=h1.mM hmu;have hmb:jO W.drew bd:=aw.isMap h1.md;obtain⟨W2,hW2⟩:∃W2,World.aJ W.drew bd (.map es clk)=W2:=⟨_,rfl⟩;have d0':W2.cell? ⟨w.heap.size,0,none⟩=some (.int .i64 d.dev):=by rw[<-hW2];exact oh hmb d0
 have d1':W2.cell? ⟨w.heap.size,1,none⟩=some (.int .i64 d.inc):=by rw[<-hW2];exact oh hmb d1
 have d2':W2.cell? ⟨w.heap.size,2,none⟩=some (.int .i64 d.seq):=by rw[<-hW2];exact oh hmb d2
 rw[hW2]at hu h2;have hbut:dZ (dx bk ba bd bv G) w W2:=by
  refine(jY hb.drew).more (T:=(· =bd)) ⟨by rw[<-hW2];rfl,by rw[<-hW2];rfl,by rw[<-hW2];rfl,by rw[<-hW2];simp[World.aJ],fun k _ hk=>by rw[<-hW2];exact fi hmb hk⟩ ?_;rintro i _ rfl;unfold dx;simp
 have hsz2:w.heap.size<W2.heap.size:=by rw[<-hW2];simp[World.aJ,hsz]
 obtain⟨W4,hs19,hst,hb4,k6,k7,k8,k9⟩:=PY W2 e v hv;obtain⟨u,hue⟩:∃u,u=fM e v:=⟨_,rfl⟩;rw[<-hue]at hst hk hs19;clear hue hv;obtain⟨W3,hW3⟩:∃W3,W2.alloc (.cells c7 75)=W3:=⟨_,rfl⟩;have hb3:Below W2.heap.size W2 W3:=by rw[<-hW3];exact(Below.refl W2.heap.size W2).alloc (Aj _) _
 rw[hW3]at hst;have h3:=h2.below hb3.drew;have c0:W3.cell? ⟨b,0,none⟩=some (.map (some bk)):=(h2.below hb3).c0;have d0'':W3.cell? ⟨w.heap.size,0,none⟩=some (.int .i64 d.dev):=(hb3.cell hsz2).trans d0';have d1'':W3.cell? ⟨w.heap.size,1,none⟩=some (.int .i64 d.inc):=(hb3.cell hsz2).trans d1';have d2'':W3.cell? ⟨w.heap.size,2,none⟩=some (.int .i64 d.seq):=(hb3.cell hsz2).trans d2';have h2d:=h2.below (Below.refl W2.heap.size W2).drew;have c0a:=h2.c0;have hlk:=G5 h3.gp d;have hlka:=G5 h2d.gp d;have h4:=h2.below hb4;have e0:W4.cell? ⟨w.heap.size,0,none⟩=some (.int .i64 d.dev):=(hb4.cell hsz2).trans d0';have e1:W4.cell? ⟨w.heap.size,1,none⟩=some (.int .i64 d.inc):=(hb4.cell hsz2).trans d1';have e2:W4.cell? ⟨w.heap.size,2,none⟩=some (.int .i64 d.seq):=(hb4.cell hsz2).trans d2';rw[show G.kept=({G with dead:=bN G.dead d 1}:bC).kept from rfl]at hk his;rw[hk,his]at hlk hlka;rw[show aX d= .agg #[.int .i64 d.dev, .int .i64 d.inc, .int .i64 d.seq]from rfl]at hlk hlka hu⊢;rw[show cz 1= .int .i64 1 from rfl]at hu;unfold c7 at hW3;simp only[Value.cells]at hst hs19;clear h h0 h1 hmu hW2 h3 h2d hk;go_enter Tryz.func68,Tryz.ntmps68
 go_wp2_with fail
 go_region
 go_wp2_with fail
 go_region
 have hbut4:dZ (dx bk ba bd bv G) w W4:=hbut.more (jY (S:=fun _=>False) hb4) fun _ _ h=>h.elim
 by_cases hin:is=true/\e.kind=1
 case neg=>
  rw[Ai hin]at hG;have h5:cB W4 n b bk ba bd bs bv G2:=by rw[hG];exact h4
  clear hG2 hG
  cases is with
  |false=>
   go_wp2;refine bodyPost_ret (results_none rfl _ _ _) rfl ?_;exact⟨rfl,hbut4,h5⟩
  |true=>
   have hkd:¬e.kind=1:=fun hh=>hin ⟨rfl,hh⟩
   go_wp2;refine bodyPost_ret (results_none rfl _ _ _) rfl ?_;exact⟨rfl,hbut4,h5⟩
 case pos=>
  obtain⟨rfl,hkd⟩:=hin;rw[An ⟨rfl,hkd⟩]at hG;rw[hkd]at k6;have h4d:=h4.below (Below.refl W4.heap.size W4).drew;have c1:=h4.c1;have hlk4:=jo h4d.ma e.key;rw[show eL e.key= .agg #[da e.key.name,da e.key.domain,da e.key.path]from rfl]at hlk4;unfold lX at hG
  cases hj:az G.alive e.key with
  |none=>
   rw[show({G with dead:=bN G.dead d 1}:bC).alive=G.alive from rfl,hj]at hlk4;rw[hj]at hG;simp only[Bk]at hlk4;have hdn:=Pu d W4.drew;rw[show aX d= .agg #[.int .i64 d.dev, .int .i64 d.inc, .int .i64 d.seq]from rfl]at hdn;have h5:=h4d.below (Below.refl W4.drew.heap.size W4.drew).drew;have h6:=h5.below (Below.refl W4.drew.drew.heap.size W4.drew.drew).drew;have hlk5:=jo h5.ma e.key;rw[show eL e.key= .agg #[da e.key.name,da e.key.domain,da e.key.path]from rfl]at hlk5;rw[show({G with dead:=bN G.dead d 1}:bC).alive=G.alive from rfl,hj]at hlk5;simp only[Bk]at hlk5;obtain⟨es6,clk6,hu6,hm6⟩:=h6.ma.delete (ts:=#[106,47]) (ty:=0) vo Tryz.underlying106 e.key rfl;rw[show eL e.key= .agg #[da e.key.name,da e.key.domain,da e.key.path]from rfl]at hu6;have h7:=h6.iG hm6;rw[show({G with dead:=bN G.dead d 1}:bC).alive=G.alive from rfl,LQ hj]at h7;have hb7:dZ (dx bk ba bd bv G) w (World.aJ W4.drew.drew.drew ba (.map es6 clk6)):=hbut4.drew.drew.drew.trans (tP (S:=dx bk ba bd bv G) (aw.isMap h6.ma) (by unfold dx;simp));have h8:cB (World.aJ W4.drew.drew.drew ba (.map es6 clk6)) n b bk ba bd bs bv G2:=by rw[hG];exact h7
   clear h4 h4d h5 h6 h7 hm6 hG hG2;go_wp2_with fail
   go_region
   go_wp2_with fail
   go_region
   go_wp2_with fail
   go_region
   go_wp2;go_end0
   exact⟨rfl,hb7,h8⟩
  |some x=>
   obtain⟨j,L⟩:=x;have hj':az ({G with dead:=bN G.dead d 1}:bC).alive e.key=some (j,L):=hj;rw[hj']at hlk4;rw[hj]at hG;simp only[A0]at hlk4;simp only at hG;have hjm:=jJ hj';obtain⟨es5,clk5,hu5,hm5⟩:=(h4d.mi _ hjm).delete (ts:=#[107,71]) (ty:=0) fJ Tryz.underlying107 d rfl;rw[show aX d= .agg #[.int .i64 d.dev, .int .i64 d.inc, .int .i64 d.seq]from rfl]at hu5;have h5:=h4d.gz hj' hm5;have hmj:jO W4.drew j:=aw.isMap (h4d.mi _ hjm);have hb5:dZ (dx bk ba bd bv G) w (World.aJ W4.drew j (.map es5 clk5)):=hbut4.drew.trans (tP (S:=dx bk ba bd bv G) hmj (by unfold dx;simp only[Al,Ar];exact .inr (.inr (.inr (.inr ⟨_,jJ hj,rfl⟩)))));obtain⟨W5,hW5⟩:∃W5,World.aJ W4.drew j (.map es5 clk5)=W5:=⟨_,rfl⟩;have q7:W5.cell? ⟨W2.heap.size,7,none⟩=some (da e.key.name):=by rw[<-hW5];exact oh hmj k7
   have q8:W5.cell? ⟨W2.heap.size,8,none⟩=some (da e.key.domain):=by rw[<-hW5];exact oh hmj k8
   have q9:W5.cell? ⟨W2.heap.size,9,none⟩=some (da e.key.path):=by rw[<-hW5];exact oh hmj k9
   rw[hW5]at hu5 h5 hb5;have c1':=h5.c1;have hget:az (bN G.alive e.key (j,cS L d)) e.key=some (j,cS L d):=by rw[gD];simp
   have h6:=h5.below (Below.refl W5.heap.size W5).drew;have hlk6:=jo h6.ma e.key;rw[show eL e.key= .agg #[da e.key.name,da e.key.domain,da e.key.path]from rfl,show({G with dead:=bN G.dead d 1,alive:=bN G.alive e.key (j,cS L d)}:bC).alive=bN G.alive e.key (j,cS L d)from rfl,hget]at hlk6;simp only[A0]at hlk6;obtain⟨esl,clkl,hbl,hszl⟩:=(h6.mi _ (jJ hget)).len;have hlen:(Builtin.len_ #[107] 3 #[.map (some j)]).run Tryz.prog W5.drew= .ok (.int .i64 (cS L d).length) W5.drew:=by
     rw[run_len_map W5.drew 107 3 j esl clkl (by simp[Program.mapKeyOf,Program.mapElemOf,Tryz.underlying107]) hbl,hszl];rfl
   by_cases hnil:cS L d=[]
   . rw[An hnil]at hG;have hz:((cS L d).length:Int)=0:=by rw[hnil];rfl
     rw[hz]at hlen;have h7:=h6.below (Below.refl W5.drew.heap.size W5.drew).drew;obtain⟨es8,clk8,hu8,hm8⟩:=h7.ma.delete (ts:=#[106,47]) (ty:=0) vo Tryz.underlying106 e.key rfl;rw[show eL e.key= .agg #[da e.key.name,da e.key.domain,da e.key.path]from rfl]at hu8;have h8:=h7.iG hm8;rw[show({G with dead:=bN G.dead d 1,alive:=bN G.alive e.key (j,cS L d)}:bC).alive=bN G.alive e.key (j,cS L d)from rfl,M7]at h8;have hb9:dZ (dx bk ba bd bv G) w (World.aJ W5.drew.drew ba (.map es8 clk8)):=hb5.drew.drew.trans (tP (S:=dx bk ba bd bv G) (aw.isMap h7.ma) (by unfold dx;simp));have h9:cB (World.aJ W5.drew.drew ba (.map es8 clk8)) n b bk ba bd bs bv G2:=by rw[hG];exact h8
     clear h4 h4d h5 h6 h7 h8 hm8 hm5 hG hG2 hget hbl hnil hj hj' hW5;go_wp2_with fail
     go_region
     go_wp2_with fail
     go_region
     go_wp2_with fail
     go_region
     go_wp2;go_end0
     exact⟨rfl,hb9,h9⟩
   . rw[Ai hnil]at hG;have hz:decide (((cS L d).length:Int)=0)=false:=AU (by
      intro h0;exact hnil (Bj.1 (by omega)))
     have h9:cB W5.drew n b bk ba bd bs bv G2:=by rw[hG];exact h6
     have hz':((((cS L d).length:Int))==0)=false:=by simpa using hz
     clear h4 h4d h5 h6 hm5 hG hG2 hget hbl hj hj' hW5;go_wp2_with fail
     go_region
     go_wp2_with fail
     go_region
     go_wp2;go_end0
     exact⟨rfl,hb5.drew,h9⟩
end
def cq (e:ae) (v:Value):List Value:=[.int .i64 e.dot.dev, .int .i64 e.dot.inc, .int .i64 e.dot.seq, .int .i64 e.bY.wall, .int .i64 e.bY.count, .int .i64 e.bY.dev, .int .i64 e.kind,da e.key.name,da e.key.domain,da e.key.path,
 da e.aa.value, .bool e.aa.aR, .bool e.aa.bG, .bool e.aa.aS, .bool e.aa.persistent, .int .i64 e.aa.bp, .int .i64 e.aa.aG, .int .i64 e.aa.access,v]
theorem zk {e:ae} {v:Value} (hv:v.oneCell'=true):∀x∈cq e v,x.oneCell'=true:=by
 intro x hx;simp only[cq,Al,BZ,DP]at hx;rcases hx with rfl|rfl|rfl|rfl|rfl|rfl|rfl|rfl|rfl|rfl|rfl|rfl|rfl|rfl|rfl|rfl|rfl|rfl|rfl
 all_goals first|exact hv|rfl
theorem PZ:∃fs,Tryz.prog.underlying 75=some (.struct fs):=⟨_,Tryz.underlying75⟩
theorem Pw {W:World} {b:Nat} {e:ae} {v:Value} (h:W.rangeAt b 0 (cq e v)):(loadVar 75 ⟨b,0,none⟩).run Tryz.prog W= .ok (fM e v) W:=by
 obtain⟨fs,hu⟩:=PZ;exact run_loadVar_mid W b 0 75 (cq e v) _ h hu rfl (by kernel_rfl)
theorem GZ {W:World} {b:Nat} {e:ae} {v:Value} (h:W.rangeAt b 0 (cq e v)):(loadCellsFrom ⟨b,0,none⟩ 0 19 #[]).run Tryz.prog W= .ok (cq e v).toArray W:=by
 have hl:(loadCells ⟨b,0,none⟩ (cq e v).length).run Tryz.prog W= .ok (cq e v).toArray W:=
  run_loadCells_list (P:=Tryz.prog) W ⟨b,0,none⟩ (cq e v) (fun j v hv=>by rw[Addr.add_mid];exact h j v hv)
 exact hl
def Hid (p:Prop):Prop:=p
theorem pR:∃(SZ:Sem Nat) (m:Nat),sizeOf 75=SZ/\(∀w,SZ.run Tryz.prog w= .ok m w)/\Hid (m=19):=⟨_,_,rfl,Tryz.sizeOf75,rfl⟩
theorem G0 {W:World} {b:Nat} {e:ae} {v:Value} (hv:v.oneCell'=true) (hth:W.there b 0 19):(fM e v).cells.size=19/\(storeCells ⟨b,0,none⟩ (fM e v).cells.toList).run Tryz.prog W= .ok () (W.setCells b 0 (cq e v)):=
 ⟨rfl,run_storeCells_cells (P:=Tryz.prog) b 0 (cq e v) 0 W (fun j hj=>(by simpa using(hth j hj).1)) (fun j hj=>(by simpa using(hth j hj).2)) (zk hv)⟩
theorem te (W:World) (e:ae) (v:Value):(W.alloc (.cells (fM e v).cells 75)).rangeAt W.heap.size 0 (cq e v):=fun j x hx=>by
 have h:(W.alloc (.cells (fM e v).cells 75)).heap[W.heap.size]? =some (.cells (cq e v).toArray 75 (0,0)):=by
  rw[kJ,An rfl];rfl
 unfold World.cell?
 simp only[h,AG,A2,Ao,AP];simpa using hx
theorem dT {W W':World} (hc:ic W W') {b o:Nat} {cs:List Value} (h:W.rangeAt b o cs):W'.rangeAt b o cs:=fun j x hx=>by
 have h1:=h j x hx;refine eJ h1 ?_;unfold World.cell? at h1
 cases e:W.heap[b]? with
 |none=>simp[e]at h1
 |some q=>
  cases q with
  |cells arr t fz=>exact hc _ _ _ _ e
  |_=>simp[e]at h1
theorem vW {W W':World} (hc:ic W W') {b n:Nat} (h:W.there b 0 n) (hn:0<n):W'.there b 0 n:=by
 have h1:=(h 0 hn).1;have hb:W'.heap[b]? =W.heap[b]? :=by
  obtain⟨u,hu⟩:=Bz.1 h1;unfold World.cell? at hu
  cases e:W.heap[b]? with
  |none=>simp[e]at hu
  |some q=>
   cases q with
   |cells arr t fz=>exact hc _ _ _ _ e
   |_=>simp[e]at hu
 intro j hj;have h2:=h j hj;unfold World.cell? World.frozen? at h2⊢;rw[hb];exact h2
theorem vL (W:World) (cs:Array Value):(W.alloc (.cells cs 75)).there W.heap.size 0 cs.size:=fun j hj=>by
 have h:(W.alloc (.cells cs 75)).heap[W.heap.size]? =some (.cells cs 75 (0,0)):=by rw[kJ,An rfl]
 constructor
 . unfold World.cell?
   simp only[h,AG,A2,Ao,AP];rw[AN hj];rfl
 . unfold World.frozen?
   simp only[h];simp
theorem Kd {W W':World} {b n:Nat} (hb:W'.heap[b]? =W.heap[b]?) (h:W.there b 0 n):W'.there b 0 n:=by
 intro j hj;have h2:=h j hj;unfold World.cell? World.frozen? at h2⊢;rw[hb];exact h2
theorem Jf {W:World} {b:Nat} {e:ae} {v v':Value} (h:W.rangeAt b 0 (cq e v)):(W.setCell ⟨b,18,none⟩ v').rangeAt b 0 (cq e v'):=by
 have h18:=h 18 v rfl;intro j x hx;have hj:j<19:=(Ah.1 hx).1;by_cases e18:j=18
 . subst e18
   cases hx;exact World.cell?_setCell_same' _ _ _ (by rw[show(⟨b,18,none⟩:Addr)=⟨b,0+18,none⟩from rfl,h18];rfl)
 . have hx':(cq e v)[j]? =some x:=by
     match j,hj with
     |0,_|1,_|2,_|3,_|4,_|5,_|6,_|7,_|8,_|9,_|10,_|11,_|12,_|13,_|14,_|15,_|16,_|17,_=>exact hx
     |18,_=>exact absurd rfl e18
   rw[World.cell?_setCell_other]
   . exact h j x hx'
   . intro he;have:=Ay Addr.off he;simp at this;omega
theorem Ja {fn:Func} {t:Tmp} {ty:TypeId} (h:fn.results=#[.cell t ty]) {tmps:Array Value} {w:World} {a:Addr} {v:Value} (hp:tmps.getD t undef= .pointer (some a)) (hl:(loadVar ty a).run Tryz.prog w= .ok v w):(results fn tmps).run Tryz.prog w= .ok v w:=by
 have hp':tmps[t]?.getD undef= .pointer (some a):=by simpa using hp
 simp[results,h,asAddr,hp',hl]
theorem cy.one {w:World} {l:List ak} {v:Value} (h:cy w l v):∃a n c,v= .slice a n c:=by
 rcases h with⟨_,a,c,rfl⟩|⟨_,_,_,_,_,_,rfl,_⟩<;>exact⟨_,_,_,rfl⟩
theorem yJ {B:Nat} (b:Nat):∀(vs:List Value) (o:Nat) (w:World) (k:Nat),k≠b->(w.setCells b o vs).heap[k]? =w.heap[k]?
 |[],_,_,_,_=>rfl
 |v::r,o,w,k,h=>by
  rw[World.setCells,yJ (B:=B) b r (o+1) _ k h];exact Below.heap_setCell w ⟨b,o,none⟩ v k h
def nO (w:World) (n:Nat) (u:Value) (e:ae):Prop:=∃v,u=fM e v/\cU w n e.over v
theorem nO.ev {w:World} {n:Nat} {u:Value} {e:ae} (h:nO w n u e):fC w u e:=by
 obtain⟨v,h1,h2⟩:=h;exact⟨v,h1,h2.cf⟩
theorem nO.mono {w:World} {n m:Nat} {u:Value} {e:ae} (h:nO w n u e) (hm:m<=n):nO w m u e:=by
 obtain⟨v,h1,h2⟩:=h;exact⟨v,h1,h2.mono hm⟩
theorem P3 {w3:World} {bx bz n:Nat} {e:ae} {v v':Value} (r3:w3.rangeAt bx 0 (cq e v)) (t3:w3.there bx 0 19) (t4:w3.there bz 0 19) (hne:bz≠bx) (hd:cU w3 n e.over v') (hx:bx<n) (hz:bz<n):
   ∃cs W4 W5,w3.setCell ⟨bx,18,none⟩ v'=W4/\w3.cell? ⟨bx,18,none⟩=some v/\w3.frozen? ⟨bx,18,none⟩=false/\(loadCellsFrom ⟨bx,0,none⟩ 0 19 #[]).run Tryz.prog W4= .ok cs W4/\cs.size=19/\(storeCells ⟨bz,0,none⟩ cs.toList).run Tryz.prog W4= .ok () W5/\
    (loadVar 75 ⟨bz,0,none⟩).run Tryz.prog W5= .ok (.agg cs) W5/\nO W5 n (.agg cs) e/\ ∀B,B<=bx->B<=bz->Below B w3 W5:=by
 have hv:=hd.one;obtain⟨sa,sn,sc,rfl⟩:=hv;have r4:(w3.setCell ⟨bx,18,none⟩ (.slice sa sn sc)).rangeAt bx 0 (cq e (.slice sa sn sc)):=Jf r3;have t5:(w3.setCell ⟨bx,18,none⟩ (.slice sa sn sc)).there bz 0 19:=Kd (Below.heap_setCell _ _ _ _ hne) t4;obtain⟨s19,hst⟩:=G0 (e:=e) (v:= .slice sa sn sc) rfl t5;have r5:=World.rangeAt_setCells_same (w3.setCell ⟨bx,18,none⟩ (.slice sa sn sc)) bz 0 (cq e (.slice sa sn sc)) t5;refine⟨(cq e (.slice sa sn sc)).toArray,_,_,rfl,r3 18 v rfl,(t3 18 (by omega)).2,GZ r4,rfl,hst,Pw r5,⟨_,rfl,hd.bn fun b _ hb _=>?_⟩,fun B h1 h2=>?_⟩
 . rw[yJ (B:=0) bz _ _ _ _ (by omega),Below.heap_setCell _ _ _ _ (by show b≠bx;omega)]
 . exact sJ h2 _ _ _ ((Below.refl _ _).setCell h1 _)
theorem Ht {w:World} {e:ae} {u:Value} (h:fC w u e) (hl:e.over.length<=100000):Calls Tryz.prog 65 #[u] w fun e' w'=>∃u',e'= .returned u'/\nO w' w.heap.size u' e/\Below w.heap.size w w':=by
 obtain⟨v,hu,hd⟩:=h;obtain⟨va,vn,vc,hve⟩:=hd.one;obtain⟨cs,hcs⟩:∃cs:Array Value,(cq e v).toArray=cs:=⟨_,rfl⟩;have hu':u= .agg cs:=by rw[hu,<-hcs];rfl
 clear hu;subst hu';obtain⟨W,hW⟩:∃W,w.alloc (.cells cs 75)=W:=⟨_,rfl⟩;have hb:Below w.heap.size w W:=by rw[<-hW];exact(Below.refl w.heap.size w).alloc (Aj _) _
 have hr:W.rangeAt w.heap.size 0 (cq e v):=by rw[<-hW,<-hcs];exact te w e v
 have hs:W.heap.size=w.heap.size+1:=by rw[<-hW];simp
 have ht:W.there w.heap.size 0 19:=by
  have:=vL w cs;rw[hW,show cs.size=19 by rw[<-hcs];rfl]at this;exact this
 obtain⟨W2,hW2⟩:∃W2,W.alloc (.cells c7 75)=W2:=⟨_,rfl⟩;have hb2:Below W.heap.size W W2:=by rw[<-hW2];exact(Below.refl W.heap.size W).alloc (Aj _) _
 have ht2:W2.there W.heap.size 0 19:=by
  have:=vL W c7;rw[hW2]at this;exact this
 have hs2:W2.heap.size=w.heap.size+2:=by rw[<-hW2];simp[hs]
 have hc2:ic w W2:=fun b arr t fz hx=>cA hb2 _ _ _ _ (cA hb _ _ _ _ hx)
 have k18:W2.cell? ⟨w.heap.size,18,none⟩=some v:=dT (cA hb2) hr 18 v rfl;have hcall:=PV (hd.cells hc2) hl;rw[hve]at hcall k18;obtain⟨SZ,m,hSZ,hsz,hm⟩:=pR;have hr2:W2.rangeAt w.heap.size 0 (cq e v):=dT (cA hb2) hr;have ht1:W2.there w.heap.size 0 19:=vW (cA hb2) ht (by omega);rw[hs]at ht2;unfold c7 at hW2;clear hcs hve;go_enter Tryz.func65,Tryz.ntmps65
 go_wp2_with (go_at_call 107;go_loud (refine hcall.mono ?_;rintro e' w3 ⟨v',rfl,hd3,hb3⟩;obtain⟨cs',W4,W5,hW4,k3,f3,x1,s19,hst,x2,hev,hbel⟩:=P3 (dT (cA hb3) hr2) (vW (cA hb3) ht1 (by omega)) (vW (cA hb3) ht2 (by omega)) (by omega) hd3 (by omega) (by omega);obtain⟨sa,sn,sc,rfl⟩:=hd3.one;rw[<-(hm:m=19)]at x1 s19;clear hm;have hbf:=(hb.trans ((hb2.mono (by omega)).trans (hb3.mono (by omega)))).trans (hbel w.heap.size (Aj _) (by omega))))
 refine bodyPost_ret (Ja rfl rfl x2) rfl ?_;exact⟨_,rfl,hev.mono (by omega),hbf⟩
theorem Pv {w:World} {e:ae} {u:Value} (h:fC w u e) (hl:e.over.length<=100000):Calls Tryz.prog 65 #[u] w fun e' w'=>∃u',e'= .returned u'/\fC w' u' e/\Below w.heap.size w w':=by
 refine(Ht h hl).mono ?_;rintro e' w' ⟨u',rfl,h1,h2⟩;exact⟨u',rfl,h1.ev,h2⟩
end Go.Proofs
namespace Go.Proofs
open Go Go.Am Go.RowKit Go.Sy Go.Gm Go.Maps Go.Sort Go.Shelf
theorem iY.mono {n m:Nat} {l:List ak} {v:Value} (h:iY n l v) (hm:m<=n):iY m l v:=by
 rcases h with h|⟨b,off,k,c,h,hb⟩
 . exact .inl h
 . exact .inr ⟨b,off,k,c,h,AW hm hb⟩
theorem QV (b:Nat) (w:World):Calls Tryz.prog 153 #[.map (some b)] w fun e w'=>e= .returned (.func (.func 181) #[] #[.pointer (some ⟨w.heap.size,0,none⟩)])/\w'=w.alloc (.cells #[.map (some b)] 107):=by
 go_enter Tryz.func153,Tryz.ntmps153
 go_wp2;go_ret;exact⟨rfl,rfl⟩
theorem PX {w:World} {Bm b:Nat} {L:DL} (hm:w.cell? ⟨Bm,0,none⟩=some (.map (some b))) (hown:aw w b aX cz L) (hl:L.length<=1000000):
  Calls Tryz.prog 152 #[.func (.func 181) #[] #[.pointer (some ⟨Bm,0,none⟩)], .func (.func 154) #[] #[]] w fun e w'=>∃v,e= .returned v/\cy w' (de bR (L.map (·.1))) v/\iY w.heap.size (de bR (L.map (·.1))) v/\Below w.heap.size w w':=by
 letI:Inhabited aI:=⟨⟨True,#[]⟩⟩
 have hcol:=callsIn_wide.1 (PR 3 (Aj _) _ _ L.length hl w (Qp 1 (Aj _) Bm b L w (iy hm) hm hown));go_enter Tryz.func152,Tryz.ntmps152
 go_wp2_with (first
  |(go_at_call 179;refine hcol.mono ?_;rintro e w1 ⟨v,ss,rfl,hS,hrow,hb1⟩;have hnd:ss.Nodup:=hS.nodup_iff.2 hown.nd;have hsl:ss.length<=1000000:=hS.length_eq.trans (BT _)▸hl;have hsort:=PJ hnd hrow hsl hb1.size)
  |(go_at_call 180;refine hsort.mono ?_;rintro e w2 ⟨rfl,hd,hn,hb2⟩))
 go_ret;have heq:de bR ss=de bR (L.map (·.1)):=rn (sO ss) fun x=>by rw[pH];exact hS.mem_iff
 rw[heq]at hd hn;exact⟨v,rfl,hd,hn,hb1.trans hb2⟩
theorem pb {w:World} {bd:Nat} {L:DL} (hm:aw w bd aX cz L) (d:ak):(Instr.lookup 107 (.map (some bd)) (aX d) false).run Tryz.prog w= .ok (.int .i64 ((az L d).getD 0)) w:=by
 rw[hm.lookup fJ Tryz.underlying107 (rY w) d false]
 cases az L d<;>rfl
theorem KL {K V:Type} [DecidableEq K] [Inhabited V] {L:List (K×V)} {k:K} (hk:k∉L.map (·.1)) (z:V):az (L++[(k,z)]) k=some z:=by
 have:=gD L k k z;unfold bN at this;rw[Ai hk,An rfl]at this;exact this
theorem Mw {K V:Type} [DecidableEq K] {L:List (K×V)} {k:K} {v:V} (x:K):x∈(bN L k v).map (·.1)↔x=k\/x∈L.map (·.1):=by
 have h:=gD L k x v;by_cases e:x=k
 . rw[An e]at h;refine⟨fun _=> .inl e,fun _=>?_⟩;by_cases hm:x∈(bN L k v).map (·.1)
   . exact hm
   . rw[bI.2 hm]at h;cases h
 . rw[Ai e]at h;constructor
   . intro hm;refine .inr ?_;by_cases hn:x∈L.map (·.1)
     . exact hn
     . rw[bI.2 hn]at h;exact absurd hm (bI.1 h)
   . rintro(hm|hm)
     . exact absurd hm e
     . by_cases hn:x∈(bN L k v).map (·.1)
       . exact hn
       . rw[bI.2 hn]at h;exact absurd hm (bI.1 h.symm)
theorem MR {l:List ak} {k:Nat} (hlt:k<l.length) {M:DL} {v:Int} (h:∀d,d∈M.map (·.1)↔d∈l.take k):∀d,d∈(bN M l[k] v).map (·.1)↔d∈l.take (k+1):=fun d=>by
 rw[Mw,h,List.take_succ,Af hlt,A6];simp only[Option.toList_some,BQ];exact or_comm
theorem N2 {M:DL} {d:ak} {v:Int} {k:Nat} (h:M.length<=k):(bN M d v).length<=k+1:=by
 unfold bN;split
 . rw[BT];omega
 . simp;omega
theorem Ni {M:DL} {k:Nat} (h:∀d,0<=(az M d).getD 0/\(az M d).getD 0<=(k:Int)) {e:ak}:∀d,0<=(az (bN M e ((az M e).getD 0+1)) d).getD 0/\(az (bN M e ((az M e).getD 0+1)) d).getD 0<=((k+1:Nat):Int):=fun d=>by
 rw[gD];have h1:=h e;have h2:=h d;split
 . simp only[Bl];omega
 . omega
theorem PS {w:World} {l:List ak} {v:Value} (h:cy w l v) (hl:l.length<=1000000):
  Calls Tryz.prog 112 #[v] w fun e w'=>∃v',e= .returned v'/\cy w' (de bR l) v'/\iY w.heap.size (de bR l) v'/\Below w.heap.size w w':=by
 letI:Inhabited aI:=⟨⟨True,#[]⟩⟩
 obtain⟨sa,sn,sc,rfl⟩:=h.one;have hsn:sn=l.length:=by
  rcases h with⟨h0,a,c,hh⟩|⟨_,_,_,_,_,_,hh,_⟩
  . cases hh;rw[h0];rfl
  . cases hh;rfl
 subst hsn;have hmm:= @run_makeMap Tryz.prog;go_enter Tryz.func112,Tryz.ntmps112
 go_wp2;go_loopw [9] (fun i wr=>∃(k:Nat) (M:DL),k<=l.length/\i= .int .i64 k/\aw wr w.heap.size aX cz M/\(∀d,d∈M.map (·.1)↔d∈l.take k)/\M.length<=k/\(∀d,0<=(az M d).getD 0/\(az M d).getD 0<=k)/\Below w.heap.size w wr)
  (fun i _=>l.length - (intOf i).toNat)
 case atStart=>exact⟨0,[],Ax _,rfl,oc (by rw[kJ,An rfl]),by simp,Ax _,fun d=>by simp[lK],(Below.refl _ _).alloc (Aj _) _⟩
 case round=>
  obtain⟨k,M,hk,rfl,hM,hmem,hml,hcnt,hbr⟩:=hrel;by_cases hlt:k<l.length
  . rcases h with⟨h0,_⟩|⟨ob,off,cap,arr,ty,fz,hh,hob,hcap,hlen,hcells⟩
    . rw[h0]at hlt;exact absurd hlt (Br _)
    . simp only[Value.slice.injEq]at hh;obtain⟨rfl, -,rfl⟩:=hh;obtain⟨x0,x1,x2⟩:=hcells k hlt;have hobr:=(hbr.block ob (Ac.1 hob).1).trans hob;have cell:∀{j:Nat} {u:Value},arr[j]? =some u->wr.cell? ⟨ob,j,none⟩=some u:=fun hx=>by
       unfold World.cell?;simp only[hobr,A2,Ao,AP];exact hx
      have c0:=cell x0;have c1:=cell x1;have c2:=cell x2;obtain⟨W,hW⟩:∃W,wr.alloc (.cells #[.int .i64 l[k].dev, .int .i64 l[k].inc, .int .i64 l[k].seq] 71)=W:=⟨_,rfl⟩;have hbW:Below wr.heap.size wr W:=by rw[<-hW];exact(Below.refl _ _).alloc (Aj _) _
      have d0:W.cell? ⟨wr.heap.size,0,none⟩=some (.int .i64 l[k].dev):=by rw[<-hW];simp
      have d1:W.cell? ⟨wr.heap.size,1,none⟩=some (.int .i64 l[k].inc):=by rw[<-hW];simp
      have d2:W.cell? ⟨wr.heap.size,2,none⟩=some (.int .i64 l[k].seq):=by rw[<-hW];simp
      have hMW:aw W.drew w.heap.size aX cz M:=hM.same (hbW.drew.block _ (Go.Gm.aw.lt hM));have hlk:=pb hMW l[k];have hz0:=(hcnt l[k]).1;have hz1:=(hcnt l[k]).2;have hwr:IntKind.i64.wrap ((az M l[k]).getD 0+1)=(az M l[k]).getD 0+1:=IntWalk.i64_in _ (by omega);have hwr':wrap64 ((az M l[k]).getD 0+1)=(az M l[k]).getD 0+1:=IntWalk.wrap64_in _ (by omega);obtain⟨ev,en,o1,o2,he1,he2,hmb,hM2,hM1⟩:=hMW.entry fJ Tryz.underlying107 (z:=0) (fun w=>rY w) l[k] ((az M l[k]).getD 0+1);have hlk1:(Instr.lookup 107 (.map (some w.heap.size)) (aX l[k]) false).run Tryz.prog (World.aJ W.drew w.heap.size o1)= .ok (.int .i64 ((az M l[k]).getD 0)) (World.aJ W.drew w.heap.size o1):=by
       rcases hM1 with hM1|⟨hk1,hM1⟩
       . exact pb hM1 l[k]
       . rw[pb hM1 l[k],KL hk1,bI.2 hk1];rfl
      have hs1:∀j,j≠w.heap.size->(World.aJ W.drew w.heap.size o1).heap[j]? =W.heap[j]? :=fun j hj=>fi hMW.isMap hj
      have hs2:∀j,j≠w.heap.size->(World.aJ (World.aJ W.drew w.heap.size o1) w.heap.size o2).heap[j]? =W.heap[j]? :=fun j hj=>(fi hmb hj).trans (hs1 j hj)
      have hne:wr.heap.size≠w.heap.size:=Nat.ne_of_gt (Go.Gm.aw.lt hM);have hB2:Below w.heap.size w (World.aJ (World.aJ W.drew w.heap.size o1) w.heap.size o2):=⟨hbW.os.trans hbr.os,hbW.tape.trans hbr.tape,hbW.output.trans hbr.output,by have h1:=hbW.size;have h2:=hbr.size;simp[World.aJ];omega,fun j hj=>((hs2 j (Nat.ne_of_lt hj)).trans (hbW.block j (AK hj hbr.size))).trans (hbr.block j hj)⟩;obtain⟨W1,hW1⟩:∃W1,World.aJ W.drew w.heap.size o1=W1:=⟨_,rfl⟩;rw[hW1]at he1 he2 hmb hM2 hlk1 hs1 hs2 hB2;obtain⟨W2,hW2⟩:∃W2,World.aJ W1 w.heap.size o2=W2:=⟨_,rfl⟩;rw[hW2]at he2 hM2 hs2 hB2;have p0:W2.cell? ⟨wr.heap.size,0,none⟩=some (.int .i64 l[k].dev):=eJ d0 (hs2 _ hne);have p1:W2.cell? ⟨wr.heap.size,1,none⟩=some (.int .i64 l[k].inc):=eJ d1 (hs2 _ hne);have p2:W2.cell? ⟨wr.heap.size,2,none⟩=some (.int .i64 l[k].seq):=eJ d2 (hs2 _ hne);have q0:W1.cell? ⟨wr.heap.size,0,none⟩=some (.int .i64 l[k].dev):=eJ d0 (hs1 _ hne);have q1:W1.cell? ⟨wr.heap.size,1,none⟩=some (.int .i64 l[k].inc):=eJ d1 (hs1 _ hne);have q2:W1.cell? ⟨wr.heap.size,2,none⟩=some (.int .i64 l[k].seq):=eJ d2 (hs1 _ hne);clear hM1 hmb hMW hs1 hs2;rw[show aX l[k]= .agg #[.int .i64 l[k].dev, .int .i64 l[k].inc, .int .i64 l[k].seq]from rfl]at hlk hlk1 he1;rw[show cz ((az M l[k]).getD 0+1)= .int .i64 ((az M l[k]).getD 0+1)from rfl]at he2;unfold goInt at he1 he2;go_wp2;go_region_held3 (fun w'=>w'.cell? ⟨wr.heap.size,0,none⟩=some (.int .i64 l[k].dev)/\w'.cell? ⟨wr.heap.size,1,none⟩=some (.int .i64 l[k].inc)/\w'.cell? ⟨wr.heap.size,2,none⟩=some (.int .i64 l[k].seq)) (simp[*]) (fail)
      all_goals go_wp2
      all_goals (
       go_roundw
       case rel=>exact⟨k+1,_,hlt,by go_num,hM2,MR hlt hmem,N2 hml,Ni hcnt,hB2⟩
       case measure=>simp[intOf];omega)
  . have hkl:k=l.length:=by omega
    subst hkl;rw[Bn]at hmem;have hmk:=QV w.heap.size wr;go_wp2_with (first
      |(go_at_call 153;refine hmk.mono ?_;rintro e w1 ⟨rfl,rfl⟩;have hsf:=PX (w:=wr.alloc (.cells #[.map (some w.heap.size)] 107)) (Bm:=wr.heap.size) (by simp) (hM.same (Below.heap_alloc _ _ _ (Go.Gm.aw.lt hM))) (AW hml hl))
      |(go_at_call 152;refine hsf.mono ?_;rintro e w2 ⟨v',rfl,hd,hn,hb2⟩))
    go_ret;have heq:de bR (M.map (·.1))=de bR l:=rn (sO _) fun x=>by rw[pH];exact hmem x
    rw[heq]at hd hn;have hs1:=hbr.size;exact⟨v',rfl,hd,iY.mono hn (by simp;omega),hbr.trans (((Below.refl _ _).alloc hs1 _).trans (hb2.mono (by simp;omega)))⟩
theorem Ih {P:Program} {ops:Array Oper} {o:Oper} {a:Act} {w:World} {K:Act->World->Prop} {Q:Exit->Act->World->Prop} {E:Prop} (hg:o.guard=none) (s x:Operand) (t:TypeId)
  (ho:o.op= .call {callee:= .builtin .append,args:=#[s,x],argTypes:=#[t,t]})
  (base:Nat) (e:TypeId) (i:TypeInfo) (z:Value) (size bytes:Nat) (ht:P.underlying t=some (.slice e)) (hi:P.info? e=some i) (hz:i.zero=some z)
  (hsize:i.size=size) (hby:i.bytes=bytes) (hzs:z.cells.size=size) (hsz:0<size)
  (v:Value) (n:Nat) (xs:List Value) (hs:a.eval s=v) (hown:w.ownsRow base e size v n xs)
  (ad:Addr) (m c:Nat) (news:List Value) (hx:a.eval x= .slice (some ad) m c) (hl:news.length=m*size) (hnews:∀j u,news[j]? =some u->w.cell? (ad.add j)=some u) (h1:∀u∈news,u.oneCell'=true)
  (h63:n+m<=maxLen) (hbytes:(n+m)*bytes<=140737488355328) (hbase:base<=w.heap.size)
  (h:∀v' w',w'.ownsRow base e size v' (n+m) (xs++news)->w.grownBy w' v.ownBlock->K (a.put o.dst v') w'):
  if Region.wanted o (yielded ops a.tmps)=true then Oper.wp P o a w K Q else E:=by
 have hw:Region.wanted o (yielded ops a.tmps)=true:=by simp[Region.wanted,hg]
 rw[An hw];exact wp_append_own _ s x t ho base e i z size bytes ht hi hz hsize hby hzs hsz v n xs hs hown ad m c news hx hl hnews h1 h63 hbytes hbase fun v' w' h2 h3 _=>h v' w' h2 h3
def fS (L:List (ae×Value)):List Value:=L.flatMap fun x=>cq x.1 x.2
theorem K8 (L:List (ae×Value)) (x:ae×Value):fS (L++[x])=fS L++cq x.1 x.2:=by
 unfold fS;rw[List.flatMap_append,List.flatMap_cons,List.flatMap_nil,B9]
theorem E2 (L:List (ae×Value)) (i:Nat) (h:i<L.length) (j:Nat) (hj:j<19):(fS L)[i*19+j]? =(cq L[i].1 L[i].2)[j]? :=by
 induction L generalizing i with
 |nil=>exact absurd h (Br _)
 | cons x L ih=>
  have hr:fS (x::L)=cq x.1 x.2++fS L:=by unfold fS;rw[List.flatMap_cons]
  have hl:(cq x.1 x.2).length=19:=rfl;rw[hr]
  cases i with
  |zero=>rw[EB,AG,AL (by omega)];rfl
  |succ i=>
   rw[A3 (by omega),hl,show(i+1)*19+j - 19=i*19+j by omega];exact ih i (by simpa using h)
def iX (w:World) (n:Nat) (l:List ae) (v:Value):Prop:=∃L:List (ae×Value),L.map (·.1)=l/\(∀x∈L,cU w n x.1.over x.2)/\w.ownsRow n 75 19 v L.length (fS L)
theorem zt {w w':World} {base size:Nat} {e:TypeId} {v:Value} {n:Nat} {xs:List Value} (h:w.ownsRow base e size v n xs) (hb:Below w.heap.size w w'):w'.ownsRow base e size v n xs:=by
 refine⟨h.1,?_⟩;rcases h.2 with hn|⟨g,cap,cur,hv,hbg,hg,rest⟩
 . exact .inl hn
 . exact .inr ⟨g,cap,cur,hv,hbg,(hb.block g (Ac.1 hg).1).trans hg,rest⟩
theorem Px {w:World} {bk:Nat} {K:List (ak×(Value×ae))} (hm:aw w bk aX iU K) {d:ak} {x:Value×ae} (hx:az K d=some x):(Instr.lookup 83 (.map (some bk)) (aX d) false).run Tryz.prog w= .ok x.1 w:=by
 rw[hm.lookup fJ Tryz.underlying83 (z:=fM kK (.slice none 0 0)) (by kernel_rfl) d false,hx];rfl
theorem QR:∃i0 z by0,Tryz.prog.info? 75=some i0/\i0.zero=some z/\i0.size=19/\i0.bytes=by0/\z.cells.size=19/\by0<=1000:=by
 have h:((Tryz.prog.info? 75).bind fun i=>i.zero.map fun z=>(i.size,Nat.ble i.bytes 1000,z.cells.size))=some (19,true,19):=by kernel_rfl
 cases e:Tryz.prog.info? 75 with
 |none=>rw[e]at h;cases h
 | some i=>
  rw[e]at h
  cases ez:i.zero with
  |none=>simp[ez]at h
  |some z=>
   simp only[Dv,ez,A0,A1,By]at h;exact⟨i,z,_,rfl,ez,h.1,rfl,h.2.2,Ak h.2.1⟩
theorem OD (e:ae) (v:Value):Array.foldl (fun(cs:Array Value) (x:Value×Nat)=>cs.setIfInBounds x.2 x.1) #[.int .i64 0, .int .i64 0, .int .i64 0, .int .i64 0, .int .i64 0, .int .i64 0, .int .i64 0, .string ⟨#[]⟩, .string ⟨#[]⟩, .string ⟨#[]⟩, .string ⟨#[]⟩, .bool false, .bool false, .bool false, .bool false, .int .i64 0, .int .i64 0, .int .i64 0, .slice none 0 0] ((cq e v).toArray.zipIdx) 0 19=(cq e v).toArray:=by kernel_rfl
theorem Tryz.sorted {w:World} {n b bk ba bd bs bv:Nat} {G:bC} (h:cB w n b bk ba bd bs bv G) {l:List ak} {v:Value} (hd:cy w l v) (hl:l.length<=1000000) (f:ak->ae) (hf:∀d∈l,∃u,az G.kept d=some (u,f d)) (hov:∀d∈l,(f d).over.length<=100000):
  Calls Tryz.prog 70 #[.pointer (some ⟨b,0,none⟩),v] w fun e w'=>∃v',e= .returned v'/\iX w' w.heap.size ((de bR l).map f) v'/\Below w.heap.size w w':=by
 letI:Inhabited aI:=⟨⟨True,#[]⟩⟩
 have hsort:=PS hd hl;go_enter Tryz.func70,Tryz.ntmps70
 go_wp2_with (go_at_call 112;refine hsort.mono ?_;rintro e w1 ⟨v1,rfl,hd1,hn1,hb1⟩;obtain⟨sa,sn,sc,rfl⟩:=hd1.one)
 have hsn:sn=(de bR l).length:=by
  rcases hd1 with⟨h0,a,c,hh⟩|⟨_,_,_,_,_,_,hh,_⟩
  . cases hh;rw[h0];rfl
  . cases hh;rfl
 subst hsn;go_loopw [5,11] (fun v i wr=>∃(k:Nat) (L:List (ae×Value)),k<=(de bR l).length/\i= .int .i64 k/\L.map (·.1)=((de bR l).take k).map f/\(∀x∈L,cU wr w1.heap.size x.1.over x.2)/\wr.ownsRow w1.heap.size 75 19 v L.length (fS L)/\Below w1.heap.size w1 wr)
  (fun _ i _=>(de bR l).length - (intOf i).toNat)
 case atStart=>exact⟨0,[],Ax _,rfl,rfl,fun x hx=>absurd hx (by simp),World.ownsRow_nil _ _ _ _,Below.refl _ _⟩
 case round=>
  obtain⟨k,L,hk,rfl,hL,hLd,hrow,hbr1⟩:=hrel;have hbr:=hb1.trans (hbr1.mono hb1.size);have hsl:(de bR l).length<=l.length:=by have:=tn (less:=bR) l [];simpa [de]using this
  have hLl:L.length=k:=by
    have:=Ay List.length hL;simp only[BT,Dx]at this;omega
  by_cases hlt:k<(de bR l).length
  . obtain⟨d,hdk⟩:∃d,(de bR l)[k]=d:=⟨_,rfl⟩;have hdl:d∈l:=by rw[<-pH (less:=bR),<-hdk];exact Au hlt
    obtain⟨u,hu⟩:=hf d hdl;have hev0:fC w u (f d):=h.ev _ ((MH h.gp.nd).1 hu);rcases hd1 with⟨h0,_⟩|⟨ob,off,cap,arr,ty,fz,hh,hob,hcap,hlen,hcells⟩
    . rw[h0]at hlt;exact absurd hlt (Br _)
    . simp only[Value.slice.injEq]at hh;obtain⟨rfl, -,rfl⟩:=hh;obtain⟨x0,x1,x2⟩:=hcells k hlt;rw[hdk]at x0 x1 x2;have hobr:=(hbr1.block ob (Ac.1 hob).1).trans hob;have cell:∀{j:Nat} {u:Value},arr[j]? =some u->wr.cell? ⟨ob,j,none⟩=some u:=fun hx=>by
       unfold World.cell?;simp only[hobr,A2,Ao,AP];exact hx
      have c0:=cell x0;have c1:=cell x1;have c2:=cell x2;obtain⟨W,hW⟩:∃W,wr.alloc (.cells #[.int .i64 d.dev, .int .i64 d.inc, .int .i64 d.seq] 71)=W:=⟨_,rfl⟩;have hbW:Below wr.heap.size wr W:=by rw[<-hW];exact(Below.refl _ _).alloc (Aj _) _
      have hrowW:W.drew.ownsRow w1.heap.size 75 19 u5 L.length (fS L):=by rw[<-hW];exact hrow.alloc _
      have d0:W.cell? ⟨wr.heap.size,0,none⟩=some (.int .i64 d.dev):=by rw[<-hW];simp
      have d1:W.cell? ⟨wr.heap.size,1,none⟩=some (.int .i64 d.inc):=by rw[<-hW];simp
      have d2:W.cell? ⟨wr.heap.size,2,none⟩=some (.int .i64 d.seq):=by rw[<-hW];simp
      have hB:Below w.heap.size w W.drew:=(hbr.trans (hbW.mono hbr.size)).drew;have hmb:=iy h.c0;have d3:W.cell? ⟨b,0,none⟩=some (.map (some bk)):=eJ h.c0 (hB.block b hmb);have hmW:aw W.drew bk aX iU G.kept:=h.gp.same (hB.block _ (Go.Gm.aw.lt h.gp));have hlk:=Px hmW hu;have hcl:=Ht (hev0.cells (cA hB)) (hov d hdl);rw[show aX d= .agg #[.int .i64 d.dev, .int .i64 d.inc, .int .i64 d.seq]from rfl]at hlk;obtain⟨i0,z0,by0,hi,hz0,hz1,hz2,hz3,hz4⟩:=QR;have hWs:wr.heap.size<W.heap.size:=by rw[<-hW];simp
      have hL1:L.length+1<=1000001:=by omega
      have hbyt:(L.length+1)*by0<=140737488355328:=AW (Nat.mul_le_mul hL1 hz4) (by decide);have hmax:L.length+1<=maxLen:=by unfold maxLen;omega
      clear hmW hev0 hcells cell hob hobr x0 x1 x2;simp only[]at hlk;go_wp2;go_region_held3 (fun w'=>w'.cell? ⟨b,0,none⟩=some (.map (some bk))/\w'.cell? ⟨wr.heap.size,0,none⟩=some (.int .i64 d.dev)/\w'.cell? ⟨wr.heap.size,1,none⟩=some (.int .i64 d.inc)/\w'.cell? ⟨wr.heap.size,2,none⟩=some (.int .i64 d.seq)) (simp[*])
       (first
         |(go_at_call 65;(refine hcl.mono ?_;rintro e' w6 ⟨u',rfl,⟨v',hu',hd6⟩,hb6⟩;have e3:=eJ d3 (hb6.block _ (by(have:=hbr.size;show b<W.heap.size;omega)));have e0:=eJ d0 (hb6.block _ hWs);have e1:=eJ d1 (hb6.block _ hWs);have e2:=eJ d2 (hb6.block _ hWs);have hone:∀u∈cq (f d) v',u.oneCell'=true:=zk (by(obtain⟨_,_,_,hh⟩:=hd6.one;rw[hh];rfl));obtain⟨cs,hcs⟩:∃cs:Array Value,(cq (f d) v').toArray=cs:=⟨_,rfl⟩;have hcz:cs.size=19:=(by(rw[<-hcs];rfl));have hu2:u'= .agg cs:=(by(rw[hu',<-hcs];rfl));clear hu';subst hu2;have hfo:=OD (f d) v';have hra:(w6.alloc (.cells (cq (f d) v').toArray 75)).rangeAt w6.heap.size 0 (cq (f d) v'):=te w6 (f d) v';rw[hcs]at hfo hra;have hnl:(cq (f d) v').length=1*19:=rfl;obtain⟨nw,hnw⟩:∃nw,cq (f d) v'=nw:=⟨_,rfl⟩;rw[hnw]at hone hcs hra hnl;obtain⟨W7,hW7⟩:∃W7,w6.alloc (.cells cs 75)=W7:=⟨_,rfl⟩;rw[hW7]at hra;have hnc:∀j u,nw[j]? =some u->W7.cell? ((⟨w6.heap.size,0,none⟩:Addr).add j)=some u:=(fun j u hj=>by(rw[Addr.add_mid];exact hra j u hj));have s6:=hb6.size;have s7:W7.heap.size=w6.heap.size+1:=(by(subst hW7;exact DC _));have hb7:Below w6.heap.size w6 W7:=(by(rw[<-hW7];exact(Below.refl _ _).alloc (Aj _) _));have g3:=eJ e3 (hb7.block _ (iy e3));have g0:=eJ e0 (hb7.block _ (iy e0));have g1:=eJ e1 (hb7.block _ (iy e0));have g2:=eJ e2 (hb7.block _ (iy e0));have hrow7:=zt (zt hrowW hb6) hb7))
         |((refine Ih rfl (.tmp 15) (.tmp 23) 32 rfl w1.heap.size 75 i0 z0 19 by0 Tryz.underlying32 hi hz0 hz1 hz2 hz3 (by decide) u5 L.length (fS L) rfl hrow7 ⟨w6.heap.size,0,none⟩ 1 1 nw rfl hnl hnc hone hmax hbyt (by(have:=hbr1.size;show w1.heap.size<=W7.heap.size;have h6:W.heap.size<=w6.heap.size:=s6;omega)) ?_;intro v8 w8 hrow8 hg8;have k3:=eJ g3 (hg8.block _ (iy g3) (fun e=>by(have:=(hrow.lt b e.symm).1;have:=hb1.size;omega)));have hne8:some wr.heap.size≠u5.ownBlock:=(fun e=>by(have:=(hrow.lt _ e.symm).2;omega));have k0:=eJ g0 (hg8.block _ (iy g0) hne8);have k1:=eJ g1 (hg8.block _ (iy g0) hne8);have k2:=eJ g2 (hg8.block _ (iy g0) hne8))))
      have hno:∀(b':Nat) (arr':Array Value),W7.heap[b']? =some (.cells arr' 71 (0,0))->w8.heap[b']? =W7.heap[b']? :=fun b' arr' hx=>by
       refine hg8.block b' (Ac.1 hx).1 fun e=>?_
       rcases ownsRow_ne_a hrow7 hx (fun cur e=>by have:=(Obj.cells.inj e).2.1;exact absurd this (by decide))with hh|hh
       . rw[hh]at e;cases e
       . exact hh e.symm
      have hn8:cU w8 w1.heap.size (f d).over v':=(hd6.mono (by have:=hbr1.size;show w1.heap.size<=W.heap.size;omega)).bn fun b' arr' _ hx=>by
       have h7:=hb7.block b' (Ac.1 hx).1;exact(hno b' arr' (h7.trans hx)).trans h7
      have ho8:∀x∈L,cU w8 w1.heap.size x.1.over x.2:=fun x hx=>(hLd x hx).bn fun b' arr' _ hb'=>by
       have hlt':=(Ac.1 hb').1;have h7:W7.heap[b']? =wr.heap[b']? :=((hb7.block b' (by have h6:W.heap.size<=w6.heap.size:=s6;omega)).trans (hb6.block b' (show b'<W.heap.size by omega))).trans (hbW.block b' hlt');exact(hno b' arr' (h7.trans hb')).trans h7
      have hB8:Below w1.heap.size w1 w8:=by
       have h1:=hbr1.size;have h6:W.heap.size<=w6.heap.size:=s6;exact(((hbr1.trans (hbW.mono h1)).drew.trans (hb6.mono (show w1.heap.size<=W.heap.size by omega))).trans (hb7.mono (by omega))).grown hg8 (by omega) (fun k e=>(hrow.lt k e).1)
      go_wp2;go_roundw
      case rel=>
       refine⟨k+1,L++[(f d,v')],hlt,by go_num,?_,?_,?_,hB8⟩
       . rw[AF,hL,List.take_succ,Af hlt,hdk,AF];rfl
       . intro x hx;rcases A6.1 hx with hx|hx
         . exact ho8 x hx
         . rw[BQ.1 hx];exact hn8
       . rw[K8,Bu];show w8.ownsRow w1.heap.size 75 19 v8 (L.length+1) (fS L++cq (f d) v')
         rw[hnw];exact hrow8
      case measure=>simp[intOf];omega
  . have hkl:k=(de bR l).length:=by omega
    subst hkl;rw[Bn]at hL;go_wp2;go_ret;refine⟨_,rfl,⟨L,hL,fun x hx=>(hLd x hx).mono hb1.size,hrow.1,?_⟩,hbr⟩;rcases hrow.2 with hn|⟨g,cap,cur,hv,hbg,rest⟩
    . exact .inl hn
    . exact .inr ⟨g,cap,cur,hv,AW hb1.size hbg,rest⟩
end Go.Proofs
namespace Go.Proofs
open Go Go.Am Go.RowKit Go.Sy Go.Gm
theorem cB.nR {w w':World} {n b bk ba bd bs bv:Nat} {G:bC} (h:cB w n b bk ba bd bs bv G) (hb:dZ (· =bv) w w') {V:List ((Int×Int)×Int)} (hm:aw w' bv dN cz V):cB w' n b bk ba bd bs bv {G with vec:=V}:=by
 obtain⟨n1,n2,n3,n4,n5,n6⟩:=h.ne;have hc:ic w w':=hb.cells fun k hk=>by subst hk;exact aw.isMap h.mv
 have cc:∀{b o:Nat} {v:Value},w.cell? ⟨b,o,none⟩=some v->w'.cell? ⟨b,o,none⟩=some v:=fun hv=>eJ hv (hb.block _ (iy hv) fun e=>sL hv (by rw[e];exact aw.isMap h.mv))
 exact⟨cc h.c0,cc h.c1,cc h.c2,cc h.c3,cc h.cv,h.gp.same (hb.block _ (aw.lt h.gp) n3),h.ma.same (hb.block _ (aw.lt h.ma) n5),h.md.same (hb.block _ (aw.lt h.md) n6),hm,fun x hx=>(h.mi x hx).same (hb.block _ (aw.lt (h.mi x hx)) (h.pA hx).2.2.2),h.nd,h.low,fun x hx=>(h.ev x hx).cells hc⟩
theorem lG {w:World} {bs bv:Nat} {L:List ((Int×Int)×Int)} (hs:w.cell? ⟨bs,0,none⟩=some (.map (some bv))) (hm:aw w bv dN cz L) (a i n:Int) (hd:eB ⟨a,i,n⟩=true):
    Calls Tryz.prog 61 #[.pointer (some ⟨bs,0,none⟩), .agg #[.int .i64 a, .int .i64 i, .int .i64 n]] w fun e w'=>e= .returned (.bool (decide (n<=kI L a i)))/\Below w.heap.size w w':=by
  have hc:=fun w=>GX a i n w
  rw[hd]at hc;have hbv:bv<w.heap.size:=aw.lt hm;have hbs:bs<w.heap.size:=iy hs;obtain⟨W,hW⟩:∃W,w.alloc (.cells #[.int .i64 a, .int .i64 i, .int .i64 n] 71)=W:=⟨_,rfl⟩;have hq:Below w.heap.size w W.drew:=by rw[<-hW];exact((Below.refl w.heap.size w).alloc (Aj _) _).drew
  have hsz:W.drew.heap.size=w.heap.size+1:=by rw[<-hW];simp
  have hn0:W.drew.cell? ⟨w.heap.size,0,none⟩=some (.int .i64 a):=by rw[<-hW];simp
  have hn1:W.drew.cell? ⟨w.heap.size,1,none⟩=some (.int .i64 i):=by rw[<-hW];simp
  have hn2:W.drew.cell? ⟨w.heap.size,2,none⟩=some (.int .i64 n):=by rw[<-hW];simp
  have hge:∀{x:World} (_:x.cell? ⟨bs,0,none⟩=some (.map (some bv))) (_:aw x bv dN cz L),Calls Tryz.prog 62 #[.pointer (some ⟨bs,0,none⟩), .agg #[.int .i64 a, .int .i64 i]] x fun e w'=>e= .returned (.int .i64 (kI L a i))/\Below x.heap.size x w':=fun h1 h2=>jX h1 h2 a i
  go_enter Tryz.func61,Tryz.ntmps61
  go_wp2_with fail
  go_region_with (first
   |(go_at_call 103;refine(hc _).mono ?_;rintro e w1 ⟨rfl,hb⟩;have hq1:=hq.trans (hb.mono (by rw[hsz];omega));have hs1:w1.cell? ⟨bs,0,none⟩=some (.map (some bv)):=(hq1.cell hbs).trans hs;have hm1:aw w1 bv dN cz L:=hm.same (hq1.block bv hbv);have hz1:=hb.size;have hb0:=(hb.cell (p:=⟨w.heap.size,0,none⟩) (by rw[hsz];show w.heap.size<_;omega)).trans hn0;have hb1:=(hb.cell (p:=⟨w.heap.size,1,none⟩) (by rw[hsz];show w.heap.size<_;omega)).trans hn1;have hb2:=(hb.cell (p:=⟨w.heap.size,2,none⟩) (by rw[hsz];show w.heap.size<_;omega)).trans hn2)
   |(go_at_call 62;refine(hge (by assumption) (by assumption)).mono ?_;rintro e w2 ⟨rfl,hc2⟩;have hq2:=hq1.trans (hc2.mono (by rw[hsz]at hz1;omega));have hc0:=(hc2.cell (p:=⟨w.heap.size,2,none⟩) (by rw[hsz]at hz1;show w.heap.size<_;omega)).trans hb2))
  all_goals (go_wp2)
  all_goals (go_ret)
  all_goals (exact⟨rfl,hq2⟩)
theorem cJ {W:World} {bx m:Nat} {e:ae} {v:Value} {cs:Array Value} (r:W.rangeAt bx 0 (cq e v)) (hcs:Hid ((cq e v).toArray=cs)) (hm:Hid (m=19)):
  W.cell? ⟨bx,0,none⟩=some (.int .i64 e.dot.dev)/\W.cell? ⟨bx,1,none⟩=some (.int .i64 e.dot.inc)/\W.cell? ⟨bx,2,none⟩=some (.int .i64 e.dot.seq)/\W.cell? ⟨bx,6,none⟩=some (.int .i64 e.kind)/\W.cell? ⟨bx,18,none⟩=some v/\
   (loadCellsFrom ⟨bx,0,none⟩ 0 m #[]).run Tryz.prog W= .ok cs W:=by
 have h1:=GZ r;rw[show(cq e v).toArray=cs from hcs,<-(show m=19 from hm)]at h1;exact⟨r 0 _ rfl,r 1 _ rfl,r 2 _ rfl,r 6 _ rfl,r 18 _ rfl,h1⟩
theorem PO {w:World} {n b bk ba bd bs bv:Nat} {G:bC} {m:bB} {e:ae} {u:Value} (h:cB w n b bk ba bd bs bv G) (hg:dW G m) (hu:fC w u e) (hse:jw e) (hl:G.kept.length<=100000) (hseq:∀a i,0<=getM m.ctx a i/\getM m.ctx a i<=4294967296)
   (hno:(dw m e).2.1=false):
   Calls Tryz.prog 30 #[.pointer (some ⟨b,0,none⟩),u] w fun e' w'=>e'= .returned (.tuple #[.bool false, .int .i64 (dw m e).2.2])/\(dw m e).1=m/\Below w.heap.size w w':=by
 obtain⟨v,hu,hd⟩:=hu;obtain⟨cs,hcs⟩:∃cs:Array Value,Hid ((cq e v).toArray=cs):=⟨_,rfl⟩;have hu':u= .agg cs:=by rw[hu,<-(show(cq e v).toArray=cs from hcs)];rfl
 have hev0:fC w (.agg cs) e:=⟨v,by rw[<-hu',hu],hd⟩;clear hu;subst hu';obtain⟨SZ,mm,hSZ,hsz,hm⟩:=pR;obtain⟨W,hW⟩:∃W,w.alloc (.cells cs 75)=W:=⟨_,rfl⟩;have hb:Below w.heap.size w W:=by rw[<-hW];exact(Below.refl w.heap.size w).alloc (Aj _) _
 have hs:W.heap.size=w.heap.size+1:=by rw[<-hW];simp
 have hr:W.rangeAt w.heap.size 0 (cq e v):=by rw[<-hW,<-(show(cq e v).toArray=cs from hcs)];exact te w e v
 have h0 :=h.below hb;have hright:=Hu (hev0.cells (cA hb)) hse;obtain⟨k0,k1,k2,k6,k18,kl⟩:=cJ hr hcs hm;have hA:(∃z,dw m e=(m,false,z)):=by
   unfold dw at hno⊢;split
   . exact⟨_,rfl⟩
   . rw[Ai ‹_›]at hno;split
     . exact⟨_,rfl⟩
     . rw[Ai ‹_›]at hno;split
       . exact⟨_,rfl⟩
       . rw[Ai ‹_›]at hno;split
         . exact⟨_,rfl⟩
         . rw[Ai ‹_›]at hno;cases hno
 obtain⟨z,hA⟩:=hA;by_cases q1:eS e=false
 . have hz:z=1:=by have:dw m e=(m,false,1):=by{unfold dw;rw[An q1]};rw[this]at hA;cases hA;rfl
   rw[q1]at hright;rw[hA,hz];go_enter Tryz.func30,Tryz.ntmps30
   go_wp2_with (go_at_call 60;refine hright.mono ?_;rintro e' w1 ⟨rfl,hb1⟩;have hbf:=hb.trans (hb1.mono (by omega)))
   refine bodyPost_ret (results_tmp2 rfl _ _ _) rfl ?_;exact⟨rfl,trivial,hbf⟩
 have q1':eS e=true:=by simpa using q1
 rw[q1']at hright;letI:Inhabited aI:=⟨⟨True,#[]⟩⟩
 have hdot:eB e.dot=true:=ti q1';have hhas0:decide (e.dot.seq<=kI G.vec e.dot.dev e.dot.inc)=ct m.ctx e.dot:=by
   unfold ct;rw[hdot,A9,eI,hg.vec]
 by_cases q2:ct m.ctx e.dot=true
 . have hz:z=0:=by have:dw m e=(m,false,0):=by{unfold dw;rw[Ai q1,An q2]};rw[this]at hA;cases hA;rfl
   have hhas:=hhas0.trans q2;rw[hA,hz];clear q1 q1' hhas0 q2 hA hno hev0 h hse;go_enter Tryz.func30,Tryz.ntmps30
   go_wp2_with (go_at_call 60;refine hright.mono ?_;rintro e' w1 ⟨rfl,hb1⟩;have hbf1:=hb.trans (hb1.mono (by omega));have h1:=h0.below hb1;have r1:=dT (cA hb1) hr;obtain⟨a0,a1,a2,a6,a18,al⟩:=cJ r1 hcs hm;have a3:=h1.c3;have h1d:=h1.below (Below.refl w1.heap.size w1).drew;have hv1:=lG h1d.cv h1d.mv e.dot.dev e.dot.inc e.dot.seq hdot;rw[hhas]at hv1;clear k0 k1 k2 k6 k18 kl h1d)
   go_region_held3 (fun w'=>w'.cell? ⟨b,3,none⟩=some (.pointer (some ⟨bs,0,none⟩))/\w'.cell? ⟨w.heap.size,0,none⟩=some (.int .i64 e.dot.dev)/\w'.cell? ⟨w.heap.size,1,none⟩=some (.int .i64 e.dot.inc)/\w'.cell? ⟨w.heap.size,2,none⟩=some (.int .i64 e.dot.seq)) (simp[*]) (first|(go_at_call 61;refine hv1.mono ?_;rintro e' w2 ⟨rfl,hb2⟩;have hbf2:=hbf1.drew.trans (hb2.mono (by have:=hbf1.size;show _<=w1.heap.size;omega));have h2:=(h1.below (Below.refl w1.heap.size w1).drew).below hb2;have r2:=dT (cA hb2) (dT (cA (Below.refl w1.heap.size w1).drew) r1);obtain⟨b0,b1,b2,b6,b18,bl⟩:=cJ r2 hcs hm;have b3:=h2.c3;have h2d:=h2.below (Below.refl w2.heap.size w2).drew;have hv2:=jX h2d.cv h2d.mv e.dot.dev e.dot.inc;rw[show(az G.vec (e.dot.dev,e.dot.inc)).getD 0=getM m.ctx e.dot.dev e.dot.inc from hg.vec _ _]at hv2;clear a0 a1 a2 a6 a18 al a3 hv1 h2d))
   all_goals go_wp2
   all_goals refine bodyPost_ret (results_tmp2 rfl _ _ _) rfl ?_
   all_goals exact⟨rfl,trivial,hbf2⟩
 have hhas:=hhas0.trans (by simpa using q2);by_cases q3:getM m.ctx e.dot.dev e.dot.inc+1≠e.dot.seq
 . have hz:z=6:=by have:dw m e=(m,false,6):=by{unfold dw;rw[Ai q1,Ai q2,An q3]};rw[this]at hA;cases hA;rfl
   have hwr:IntKind.i64.wrap (getM m.ctx e.dot.dev e.dot.inc+1)=getM m.ctx e.dot.dev e.dot.inc+1:=IntWalk.i64_in _ (by have:=hseq e.dot.dev e.dot.inc;omega);have hne:(e.dot.seq !=getM m.ctx e.dot.dev e.dot.inc+1)=true:=by simpa using fun h:e.dot.seq=_=>q3 h.symm
   rw[hA,hz];clear q1 q1' hhas0 q2 hA hno hev0 h hse q3;go_enter Tryz.func30,Tryz.ntmps30
   go_wp2_with (go_at_call 60;refine hright.mono ?_;rintro e' w1 ⟨rfl,hb1⟩;have hbf1:=hb.trans (hb1.mono (by omega));have h1:=h0.below hb1;have r1:=dT (cA hb1) hr;obtain⟨a0,a1,a2,a6,a18,al⟩:=cJ r1 hcs hm;have a3:=h1.c3;have h1d:=h1.below (Below.refl w1.heap.size w1).drew;have hv1:=lG h1d.cv h1d.mv e.dot.dev e.dot.inc e.dot.seq hdot;rw[hhas]at hv1;clear k0 k1 k2 k6 k18 kl h1d)
   go_region_held3 (fun w'=>w'.cell? ⟨b,3,none⟩=some (.pointer (some ⟨bs,0,none⟩))/\w'.cell? ⟨w.heap.size,0,none⟩=some (.int .i64 e.dot.dev)/\w'.cell? ⟨w.heap.size,1,none⟩=some (.int .i64 e.dot.inc)/\w'.cell? ⟨w.heap.size,2,none⟩=some (.int .i64 e.dot.seq)) (simp[*]) (first|(go_at_call 61;refine hv1.mono ?_;rintro e' w2 ⟨rfl,hb2⟩;have hbf2:=hbf1.drew.trans (hb2.mono (by have:=hbf1.size;show _<=w1.heap.size;omega));have h2:=(h1.below (Below.refl w1.heap.size w1).drew).below hb2;have r2:=dT (cA hb2) (dT (cA (Below.refl w1.heap.size w1).drew) r1);obtain⟨b0,b1,b2,b6,b18,bl⟩:=cJ r2 hcs hm;have b3:=h2.c3;have h2d:=h2.below (Below.refl w2.heap.size w2).drew;have hv2:=jX h2d.cv h2d.mv e.dot.dev e.dot.inc;rw[show(az G.vec (e.dot.dev,e.dot.inc)).getD 0=getM m.ctx e.dot.dev e.dot.inc from hg.vec _ _]at hv2;clear a0 a1 a2 a6 a18 al a3 hv1 h2d))
   all_goals go_wp2_with fail
   all_goals go_region_held3 (fun w'=>w'.cell? ⟨b,3,none⟩=some (.pointer (some ⟨bs,0,none⟩))/\w'.cell? ⟨w.heap.size,0,none⟩=some (.int .i64 e.dot.dev)/\w'.cell? ⟨w.heap.size,1,none⟩=some (.int .i64 e.dot.inc)/\w'.cell? ⟨w.heap.size,2,none⟩=some (.int .i64 e.dot.seq)) (simp[*]) (first|(go_at_call 62;refine hv2.mono ?_;rintro e' w3 ⟨rfl,hb3⟩;have hbf3:=hbf2.drew.trans (hb3.mono (by have:=hbf2.size;show _<=w2.heap.size;omega));have h3:=(h2.below (Below.refl w2.heap.size w2).drew).below hb3;have hv3:=Tryz.room h3 hl;  have r3:=dT (cA hb3) (dT (cA (Below.refl w2.heap.size w2).drew) r2);obtain⟨c0,c1,c2,c6,c18,cl⟩:=cJ r3 hcs hm;have c3:=h3.c3;clear b0 b1 b2 b6 b18 bl b3 hv2))
   all_goals go_wp2
   all_goals refine bodyPost_ret (results_tmp2 rfl _ _ _) rfl ?_
   all_goals exact⟨rfl,trivial,hbf3⟩
 have q3':getM m.ctx e.dot.dev e.dot.inc+1=e.dot.seq:=by simpa using q3
 have q4:2048<=m.kept.length:=by
   apply Bg;intro q4;unfold dw at hno;rw[Ai q1,Ai q2,Ai q3,Ai q4]at hno
   cases hno
 have hz:z=9:=by have:dw m e=(m,false,9):=by{unfold dw;rw[Ai q1,Ai q2,Ai q3,An q4]};rw[this]at hA;cases hA;rfl
 have hwr:IntKind.i64.wrap (getM m.ctx e.dot.dev e.dot.inc+1)=getM m.ctx e.dot.dev e.dot.inc+1:=IntWalk.i64_in _ (by have:=hseq e.dot.dev e.dot.inc;omega);have hne:(e.dot.seq !=getM m.ctx e.dot.dev e.dot.inc+1)=false:=by rw[q3'];simp
 have hroom:decide (1<=2048 - (G.kept.length:Int))=false:=AU (by rw[hg.len];omega);rw[hA,hz];clear q1 q1' hhas0 q2 hA hno hev0 h hse q3 q3' q4;go_enter Tryz.func30,Tryz.ntmps30
 go_wp2_with (go_at_call 60;refine hright.mono ?_;rintro e' w1 ⟨rfl,hb1⟩;have hbf1:=hb.trans (hb1.mono (by omega));have h1:=h0.below hb1;have r1:=dT (cA hb1) hr;obtain⟨a0,a1,a2,a6,a18,al⟩:=cJ r1 hcs hm;have a3:=h1.c3;have h1d:=h1.below (Below.refl w1.heap.size w1).drew;have hv1:=lG h1d.cv h1d.mv e.dot.dev e.dot.inc e.dot.seq hdot;rw[hhas]at hv1;clear k0 k1 k2 k6 k18 kl h1d)
 go_region_held3 (fun w'=>w'.cell? ⟨b,3,none⟩=some (.pointer (some ⟨bs,0,none⟩))/\w'.cell? ⟨w.heap.size,0,none⟩=some (.int .i64 e.dot.dev)/\w'.cell? ⟨w.heap.size,1,none⟩=some (.int .i64 e.dot.inc)/\w'.cell? ⟨w.heap.size,2,none⟩=some (.int .i64 e.dot.seq)) (simp[*]) (first|(go_at_call 61;refine hv1.mono ?_;rintro e' w2 ⟨rfl,hb2⟩;have hbf2:=hbf1.drew.trans (hb2.mono (by have:=hbf1.size;show _<=w1.heap.size;omega));have h2:=(h1.below (Below.refl w1.heap.size w1).drew).below hb2;have r2:=dT (cA hb2) (dT (cA (Below.refl w1.heap.size w1).drew) r1);obtain⟨b0,b1,b2,b6,b18,bl⟩:=cJ r2 hcs hm;have b3:=h2.c3;have h2d:=h2.below (Below.refl w2.heap.size w2).drew;have hv2:=jX h2d.cv h2d.mv e.dot.dev e.dot.inc;rw[show(az G.vec (e.dot.dev,e.dot.inc)).getD 0=getM m.ctx e.dot.dev e.dot.inc from hg.vec _ _]at hv2;clear a0 a1 a2 a6 a18 al a3 hv1 h2d))
 all_goals go_wp2_with fail
 all_goals go_region_held3 (fun w'=>w'.cell? ⟨b,3,none⟩=some (.pointer (some ⟨bs,0,none⟩))/\w'.cell? ⟨w.heap.size,0,none⟩=some (.int .i64 e.dot.dev)/\w'.cell? ⟨w.heap.size,1,none⟩=some (.int .i64 e.dot.inc)/\w'.cell? ⟨w.heap.size,2,none⟩=some (.int .i64 e.dot.seq)) (simp[*]) (first|(go_at_call 62;refine hv2.mono ?_;rintro e' w3 ⟨rfl,hb3⟩;have hbf3:=hbf2.drew.trans (hb3.mono (by have:=hbf2.size;show _<=w2.heap.size;omega));have h3:=(h2.below (Below.refl w2.heap.size w2).drew).below hb3;have hv3:=Tryz.room h3 hl;rw[hroom]at hv3;have r3:=dT (cA hb3) (dT (cA (Below.refl w2.heap.size w2).drew) r2);obtain⟨c0,c1,c2,c6,c18,cl⟩:=cJ r3 hcs hm;have c3:=h3.c3;clear b0 b1 b2 b6 b18 bl b3 hv2))
 all_goals go_wp2_with (go_at_call 63;refine hv3.mono ?_;rintro e' w4 ⟨rfl,rfl⟩)
 all_goals refine bodyPost_ret (results_tmp2 rfl _ _ _) rfl ?_
 all_goals exact⟨rfl,trivial,hbf3⟩
theorem MN {bk ba bd bv i j:Nat} {G:bC} {k:bg} {L:DL} {K:List (ak×(Value×ae))} {V:List ((Int×Int)×Int)} {N:Nat} (hal:az G.alive k=none) (hj:N<=j) (hi:i<N) (h:dx bk ba bd bv ⟨K,bN G.alive k (j,L),G.dead,V⟩ i):dx bk ba bd bv G i:=by
 unfold dx at h⊢;rw[show(bN G.alive k (j,L)).map (fun x=>x.2.1)=G.alive.map (fun x=>x.2.1)++[j]from zr hal]at h;simp only[Al,A6,BZ,DP]at h⊢;rcases h with h|h|h|h|h|h
 . exact .inl h
 . exact .inr (.inl h)
 . exact .inr (.inr (.inl h))
 . exact .inr (.inr (.inr (.inl h)))
 . exact .inr (.inr (.inr (.inr h)))
 . omega
theorem MO {bk ba bd bv i j:Nat} {G:bC} {k:bg} {L L':DL} {K:List (ak×(Value×ae))} {V:List ((Int×Int)×Int)} (hn:(G.alive.map (·.1)).Nodup) (hal:az G.alive k=some (j,L)) (h:dx bk ba bd bv ⟨K,bN G.alive k (j,L'),G.dead,V⟩ i):dx bk ba bd bv G i:=by
 unfold dx at h⊢;rw[show(bN G.alive k (j,L')).map (fun x=>x.2.1)=G.alive.map (fun x=>x.2.1)from rM hn hal rfl]at h;exact h
theorem JE {G:bC} (hn:(G.alive.map (·.1)).Nodup) (d:ak) {j:Nat} (h:j∈(iN G d).alive.map (·.2.1)):j∈G.alive.map (·.2.1):=by
 unfold iN at h;simp only at h;split at h
 . split at h
   . unfold lX at h;split at h
     . exact h
     . rename_i x hx;split at h
       . obtain⟨y,hy,rfl⟩:=Ar.1 h;exact Ar.2 ⟨y,(BF.1 hy).1,rfl⟩
       . rw[show(bN G.alive _ (x.1,cS x.2 d)).map (fun x=>x.2.1)=G.alive.map (fun x=>x.2.1)from rM hn hx rfl]at h;exact h
   . exact h
 . exact h
theorem zN {G:bC} {l:List ak} {k:Nat} (h:k<l.length):jh G (l.take (k+1))=iN (jh G (l.take k)) l[k]:=by
 unfold jh;rw[As h,Ed];rfl
theorem PG {w:World} {n b bk ba bd bs bv:Nat} {G:bC} {m:bB} {e:ae} {u:Value} (h:cB w n b bk ba bd bs bv G) (hg:dW G m) (hn:n<=w.heap.size) (hu:fC w u e) (hse:jw e) (hover:e.over.length<=100000) (hseq:∀a i,0<=getM m.ctx a i/\getM m.ctx a i<=4294967296)
  (q1:eS e=true) (q2:ct m.ctx e.dot=false) (q3:getM m.ctx e.dot.dev e.dot.inc+1=e.dot.seq) (q4:¬2048<=m.kept.length):
  Calls Tryz.prog 30 #[.pointer (some ⟨b,0,none⟩),u] w fun e' w'=>e'= .returned (.tuple #[.bool true, .int .i64 0])/\dZ (dx bk ba bd bv G) w w'/\ ∃G',cB w' n b bk ba bd bs bv G'/\dW G' (dw m e).1:=by
 obtain⟨v,hu,hd⟩:=hu;obtain⟨va,vn,vc,hve⟩:=hd.one;obtain⟨cs,hcs⟩:∃cs:Array Value,Hid ((cq e v).toArray=cs):=⟨_,rfl⟩;have hu':u= .agg cs:=by rw[hu,<-(show(cq e v).toArray=cs from hcs)];rfl
 have hev0:fC w (.agg cs) e:=⟨v,by rw[<-hu',hu],hd⟩;clear hu;subst hu';obtain⟨SZ,mm,hSZ,hsz,hm⟩:=pR;obtain⟨W,hW⟩:∃W,w.alloc (.cells cs 75)=W:=⟨_,rfl⟩;have hb:Below w.heap.size w W:=by rw[<-hW];exact(Below.refl w.heap.size w).alloc (Aj _) _
 have hs:W.heap.size=w.heap.size+1:=by rw[<-hW];simp
 have hr:W.rangeAt w.heap.size 0 (cq e v):=by rw[<-hW,<-(show(cq e v).toArray=cs from hcs)];exact te w e v
 have h0:=h.below hb;have hright:=Hu (hev0.cells (cA hb)) hse;obtain⟨k0,k1,k2,k6,k18,kl⟩:=cJ hr hcs hm;rw[q1]at hright;letI:Inhabited aI:=⟨⟨True,#[]⟩⟩
 have hdot:eB e.dot=true:=ti q1;have hhas:decide (e.dot.seq<=kI G.vec e.dot.dev e.dot.inc)=false:=by
  have hh:decide (e.dot.seq<=kI G.vec e.dot.dev e.dot.inc)=ct m.ctx e.dot:=by
   unfold ct;rw[hdot,A9,eI,hg.vec]
  rw[hh,q2]
 have hwr:IntKind.i64.wrap (getM m.ctx e.dot.dev e.dot.inc+1)=getM m.ctx e.dot.dev e.dot.inc+1:=IntWalk.i64_in _ (by have:=hseq e.dot.dev e.dot.inc;omega);have hne:(e.dot.seq !=getM m.ctx e.dot.dev e.dot.inc+1)=false:=by rw[q3];simp
 have hl:G.kept.length<=100000:=by rw[hg.len];omega
 have hroom:decide (1<=2048 - (G.kept.length:Int))=true:=A7 (by rw[hg.len];omega);have hprev:(az G.vec (e.dot.dev,e.dot.inc)).getD 0=e.dot.seq - 1:=by
  have:=hg.vec e.dot.dev e.dot.inc;unfold kI at this;rw[this];omega
 have hfin:=fun(v:Value) (nb:Nat)=>(hg.apply v nb q1 q2 q3 q4).1
 have hfinal:Hid (∀(v:Value) (nb:Nat),dW (oA G e v nb) (dw m e).1):=hfin;clear hfin;have hgv:=hg.vec;clear q1 q2 q3 q4 hg;go_enter Tryz.func30,Tryz.ntmps30
 go_wp2_with (go_at_call 60;refine hright.mono ?_;rintro e' w1 ⟨rfl,hb1⟩;have hbf1:=hb.trans (hb1.mono (by omega));have h1:=h0.below hb1;have r1:=dT (cA hb1) hr;obtain⟨a0,a1,a2,a6,a18,al⟩:=cJ r1 hcs hm;have a3:=h1.c3;have h1d:=h1.below (Below.refl w1.heap.size w1).drew;have hv1:=lG h1d.cv h1d.mv e.dot.dev e.dot.inc e.dot.seq hdot;rw[hhas]at hv1;have hev1:=(hev0.cells (cA hb)).cells (cA hb1);clear k0 k1 k2 k6 k18 kl h1d)
 go_region_held3 (fun w'=>w'.cell? ⟨b,3,none⟩=some (.pointer (some ⟨bs,0,none⟩))/\w'.cell? ⟨w.heap.size,0,none⟩=some (.int .i64 e.dot.dev)/\w'.cell? ⟨w.heap.size,1,none⟩=some (.int .i64 e.dot.inc)/\w'.cell? ⟨w.heap.size,2,none⟩=some (.int .i64 e.dot.seq)) (simp[*]) (first|(go_at_call 61;refine hv1.mono ?_;rintro e' w2 ⟨rfl,hb2⟩;have hbf2:=hbf1.drew.trans (hb2.mono (by have:=hbf1.size;show _<=w1.heap.size;omega));have h2:=(h1.below (Below.refl w1.heap.size w1).drew).below hb2;have r2:=dT (cA hb2) (dT (cA (Below.refl w1.heap.size w1).drew) r1);obtain⟨b0,b1,b2,b6,b18,bl⟩:=cJ r2 hcs hm;have b3:=h2.c3;have h2d:=h2.below (Below.refl w2.heap.size w2).drew;have hv2:=jX h2d.cv h2d.mv e.dot.dev e.dot.inc;rw[show(az G.vec (e.dot.dev,e.dot.inc)).getD 0=getM m.ctx e.dot.dev e.dot.inc from hgv _ _]at hv2;have hev2:fC w2 (.agg cs) e:=hev1.cells (fun bb arr t fz hx=>cA hb2 bb arr t fz hx);clear a0 a1 a2 a6 a18 al a3 hv1 h2d))
 all_goals go_wp2_with fail
 all_goals go_region_held3 (fun w'=>w'.cell? ⟨b,3,none⟩=some (.pointer (some ⟨bs,0,none⟩))/\w'.cell? ⟨w.heap.size,0,none⟩=some (.int .i64 e.dot.dev)/\w'.cell? ⟨w.heap.size,1,none⟩=some (.int .i64 e.dot.inc)/\w'.cell? ⟨w.heap.size,2,none⟩=some (.int .i64 e.dot.seq)) (simp[*]) (first|(go_at_call 62;refine hv2.mono ?_;rintro e' w3 ⟨rfl,hb3⟩;have hbf3:=hbf2.drew.trans (hb3.mono (by have:=hbf2.size;show _<=w2.heap.size;omega));have h3:=(h2.below (Below.refl w2.heap.size w2).drew).below hb3;have hv3:=Tryz.room h3 hl;rw[hroom]at hv3;have r3:=dT (cA hb3) (dT (cA (Below.refl w2.heap.size w2).drew) r2);obtain⟨c0,c1,c2,c6,c18,cl⟩:=cJ r3 hcs hm;have c3:=h3.c3;have hev3:fC w3 (.agg cs) e:=hev2.cells (fun bb arr t fz hx=>cA hb3 bb arr t fz hx);clear b0 b1 b2 b6 b18 bl b3 hv2))
 all_goals go_wp2_with (go_at_call 63;refine hv3.mono ?_;rintro e' w4 ⟨rfl,rfl⟩;have h3d:=h3.below (Below.refl w4.heap.size w4).drew;have hv4:=QZ h3d.cv h3d.mv e.dot.dev e.dot.inc e.dot.seq (fun hh=>sL h3d.cv (by rw[hh];exact aw.isMap h3d.mv)) hdot hprev;clear hv3)
 all_goals go_region_held3 (fun w'=>w'.cell? ⟨b,3,none⟩=some (.pointer (some ⟨bs,0,none⟩))/\w'.cell? ⟨w.heap.size,0,none⟩=some (.int .i64 e.dot.dev)/\w'.cell? ⟨w.heap.size,1,none⟩=some (.int .i64 e.dot.inc)/\w'.cell? ⟨w.heap.size,2,none⟩=some (.int .i64 e.dot.seq)) (simp[*]) (first|(go_at_call 64;refine hv4.mono ?_;rintro e' w5 ⟨rfl,hb5,hmv5⟩;have h5:=h3d.nR hb5 hmv5;have hbut5:dZ (dx bk ba bd bv G) w w5:=(jY hbf3.drew).trans (hb5.mono fun k _ hk=>by(rw[hk];unfold dx;simp));have hc5:ic w4.drew w5:=hb5.cells (fun k hk=>by(rw[hk];exact aw.isMap h3d.mv));have r5:=dT hc5 (dT (cA (Below.refl w4.heap.size w4).drew) r3);obtain⟨d0,d1,d2,d6,d18,dl⟩:=cJ r5 hcs hm;have d3:=h5.c3;have e0:=h5.c0;obtain⟨-, -, -, -, -,dl'⟩:=cJ (dT (cA (Below.refl w5.heap.size w5).drew) r5) hcs hm;have hev5:fC w5.drew (.agg cs) e:=hev3.cells (fun bb arr t fz hx=>hc5 bb arr t fz hx);have hv5:=Pv hev5 hover;clear c0 c1 c2 c6 c18 cl c3 hv4))
 all_goals go_wp2_with fail
 all_goals go_region_held3 (fun w'=>w'.cell? ⟨b,0,none⟩=some (.map (some bk))/\w'.cell? ⟨w.heap.size,0,none⟩=some (.int .i64 e.dot.dev)/\w'.cell? ⟨w.heap.size,1,none⟩=some (.int .i64 e.dot.inc)/\w'.cell? ⟨w.heap.size,2,none⟩=some (.int .i64 e.dot.seq)/\(loadCellsFrom ⟨w.heap.size,0,none⟩ 0 mm #[]).run Tryz.prog w'= .ok cs w') (simp[*]) (first|(go_at_call 65;refine hv5.mono ?_;rintro e' w6 ⟨u',rfl,hev6,hb6⟩;have h6:=(h5.below (Below.refl w5.heap.size w5).drew).below hb6;have r6:=dT (cA hb6) (dT (cA (Below.refl w5.heap.size w5).drew) r5);obtain⟨f0,f1,f2,f6,f18,fl⟩:=cJ r6 hcs hm;have f3:=h6.c0;obtain⟨es,clk,hup,hmu⟩:=h6.gp.update fJ Tryz.underlying83 e.dot (u',e);rw[show aX e.dot= .agg #[.int .i64 e.dot.dev, .int .i64 e.dot.inc, .int .i64 e.dot.seq]from rfl,show iU (u',e)=u' from rfl]at hup;have h7:=h6.mN (x:=(u',e)) hev6 hmu;have hbut6:dZ (dx bk ba bd bv G) w w6:=hbut5.drew.trans (jY hb6);have hbut7:dZ (dx bk ba bd bv G) w (World.aJ w6 bk (.map es clk)):=hbut6.trans (tP (aw.isMap h6.gp) (by(unfold dx;simp)));have r7:(World.aJ w6 bk (.map es clk)).rangeAt w.heap.size 0 (cq e v):=dT (sX (aw.isMap h6.gp)) r6;obtain⟨W7,hW7⟩:∃W7,World.aJ w6 bk (.map es clk)=W7:=⟨_,rfl⟩;rw[hW7]at hup h7 hbut7 r7;obtain⟨g0,g1,g2,g6,g18,gl⟩:=cJ r7 hcs hm;have g3:=h7.c0;clear d0 d1 d2 d6 d18 dl d3 e0 hv5 hmu))
 rename_i Q0 K0 hK0 hS0;clear hS0;refine hK0 _ _ ?_;apply wp_seq_k;intro K1 hK1;go_cut []from 6 (fun wc=>dZ (dx bk ba bd bv G) w wc/\(∃nb,cB wc n b bk ba bd bs bv (gv (fI G e u') e nb)/\ ∀i,i<w.heap.size->dx bk ba bd bv (gv (fI G e u') e nb) i->dx bk ba bd bv G i)/\wc.rangeAt w.heap.size 0 (cq e v))
 case rest=>
  obtain⟨hbutc,⟨nb,hc,hmc⟩,rc⟩:=hcut;have hmapsW:=h.maps;obtain⟨p0,p1,p2,p6,p18,pl⟩:=cJ rc hcs hm;rw[hve]at p18;have hlenv:vn=e.over.length:=by
   rw[hve]at hd;rcases hd with⟨h0,a,c,hh⟩|⟨_,_,_,_,_,_,hh,_⟩
   . cases hh;rw[h0];rfl
   . cases hh;rfl
  subst hlenv;clear h h0 hr hright hev0;go_wp2;go_loopw [72] (fun i wr=>∃k:Nat,k<=e.over.length/\i= .int .i64 k/\dZ (dx bk ba bd bv G) w wr/\cB wr n b bk ba bd bs bv (jh (gv (fI G e u') e nb) (e.over.take k))/\ ∀i,i<w.heap.size->dx bk ba bd bv (jh (gv (fI G e u') e nb) (e.over.take k)) i->dx bk ba bd bv G i)
   (fun i _=>e.over.length - (intOf i).toNat)
  case atStart=>exact⟨0,Ax _,rfl,hbutc,by rw[DZ];exact hc,by rw[DZ];exact hmc⟩
  case round=>
   obtain⟨k,hk,rfl,hbr,hor,hmr⟩:=hrel;by_cases hlt:k<e.over.length
   . have hstay:ic w wr:=hbr.cells hmapsW;rw[hve]at hd;rcases hd with⟨h0,_⟩|⟨ob,off,cap,arr,ty,fz,hh,hob,hcap,hlen,hcells⟩
     . rw[h0]at hlt;exact absurd hlt (Br _)
     . simp only[Value.slice.injEq]at hh;obtain⟨rfl, -,rfl⟩:=hh;obtain⟨x0,x1,x2⟩:=hcells k hlt;have hobr:=hstay _ _ _ _ hob;have cell:∀{j:Nat} {u:Value},arr[j]? =some u->wr.cell? ⟨ob,j,none⟩=some u:=fun hx=>by
        unfold World.cell?;simp only[hobr,A2,Ao,AP];exact hx
       have c0:=cell x0;have c1:=cell x1;have c2:=cell x2;have hba:Below wr.heap.size wr (wr.alloc (.cells #[.int .i64 e.over[k].dev, .int .i64 e.over[k].inc, .int .i64 e.over[k].seq] 71)):=(Below.refl wr.heap.size wr).alloc (Aj _) _;have hkill:=Tryz.kill (hor.below hba) e.over[k];have hnda:=hor.ma.nd;have hwrs:=hbr.size;rw[show aX e.over[k]= .agg #[.int .i64 e.over[k].dev, .int .i64 e.over[k].inc, .int .i64 e.over[k].seq]from rfl]at hkill;clear hcells x0 x1 x2 cell hob hobr hstay hlen rc hc hbutc p0 p1 p2 p6 pl p18;go_wp2_with (go_at_call 68;refine hkill.mono ?_;rintro e' w9 ⟨rfl,hb9,h9⟩;have R1:dZ (dx bk ba bd bv G) w w9:=(hbr.more (jY (S:=fun _=>False) hba) (fun _ _ h=>h.elim)).more hb9 (fun i hi hh=>hmr i hi hh);rw[<-zN hlt]at h9)
       go_roundw
       case rel=>
        refine⟨k+1,hlt,by go_num,R1,h9,fun i hi hh=>hmr i hi ?_⟩;rw[zN hlt]at hh;unfold dx at hh⊢;simp only[Al]at hh⊢;rcases hh with hh|hh|hh|hh|hh
        . exact .inl hh
        . exact .inr (.inl hh)
        . exact .inr (.inr (.inl hh))
        . exact .inr (.inr (.inr (.inl hh)))
        . exact .inr (.inr (.inr (.inr (JE hnda _ hh))))
       case measure=>simp[intOf];omega
   . have hkl:k=e.over.length:=by omega
     subst hkl;rw[Bn]at hor;go_wp2;refine bodyPost_ret (results_tmp2 rfl _ _ _) rfl ?_;exact⟨rfl,hbr,_,hor,(show ∀(v:Value) (nb:Nat),dW (oA G e v nb) (dw m e).1 from hfinal) u' nb⟩
 case first=>
  have h7':cB W7 n b bk ba bd bs bv (fI G e u'):=h7;have hencv:fM e v= .agg cs:=by rw[<-(show(cq e v).toArray=cs from hcs)];rfl
  by_cases kd:e.kind=1
  case neg=>
   have hL:gv (fI G e u') e 0=fI G e u':=by unfold gv;rw[Ai (fun hh=>kd hh.1)]
   go_wp2;go_meet
   case rel=>exact⟨hbut7,⟨0,by rw[hL];exact⟨h7',fun _ _ hh=>hh⟩⟩,r7⟩
  case pos=>
   rw[kd]at g6;have hdead:=Tryz.dead h7' e.dot;rw[show aX e.dot= .agg #[.int .i64 e.dot.dev, .int .i64 e.dot.inc, .int .i64 e.dot.seq]from rfl,show(fI G e u').dead=G.dead from rfl]at hdead
   cases hdd:az G.dead e.dot with
   | some z=>
     rw[hdd]at hdead;have hL:gv (fI G e u') e 0=fI G e u':=by
       unfold gv;rw[Ai (fun hh=>by have:=hh.2;rw[show(fI G e u').dead=G.dead from rfl,hdd]at this;cases this)]
     go_wp2_with (go_at_call 66;refine hdead.mono ?_;rintro e' w8 ⟨rfl,hb8⟩;have h8:=h7'.below hb8;have r8:=dT (cA hb8) r7;have hbut8:=hbut7.more (jY (S:=fun _=>False) hb8) (fun _ _ h=>h.elim))
     go_meet
     case rel=>exact⟨hbut8,⟨0,by rw[hL];exact⟨h8,fun _ _ hh=>hh⟩⟩,r8⟩
   | none=>
     rw[hdd]at hdead
     cases hal:az G.alive e.key with
     | none=>
       have hL:∀nb,gv (fI G e u') e nb={fI G e u' with alive:=bN G.alive e.key (nb,[(e.dot,1)])}:=fun nb=>by
        unfold gv nI;rw[An ⟨kd,hdd⟩,show(fI G e u').alive=G.alive from rfl,hal]
       go_wp2_with (first
        |(go_at_call 66;refine hdead.mono ?_;rintro e' w8 ⟨rfl,hb8⟩;have h8:=h7'.below hb8;have r8:=dT (cA hb8) r7;have hbut8:=hbut7.more (jY (S:=fun _=>False) hb8) (fun _ _ h=>h.elim);obtain⟨j0,j1,j2,j6,vB,jl⟩:=cJ r8 hcs hm;have hlive:=PH h8 (by have:=hbut8.size;omega) e v hal;rw[hencv]at hlive)
        |(go_at_call 67;refine hlive.mono ?_;rintro e' w9 ⟨rfl,hb9,nb,hnb,h9⟩;have r9:=dT (hb9.cells h8.maps) r8;have hbut9:dZ (dx bk ba bd bv G) w w9:=hbut8.trans hb9))
       go_meet
       case rel=>exact⟨hbut9,⟨nb,by rw[hL];exact⟨h9,fun i hi hh=>MN hal (by have:=hbut8.size;omega) hi hh⟩⟩,r9⟩
     | some x=>
       obtain⟨jb,L⟩:=x;have hL:gv (fI G e u') e 0={fI G e u' with alive:=bN G.alive e.key (jb,bN L e.dot 1)}:=by
        unfold gv nI;rw[An ⟨kd,hdd⟩,show(fI G e u').alive=G.alive from rfl,hal]
       go_wp2_with (first
        |(go_at_call 66;refine hdead.mono ?_;rintro e' w8 ⟨rfl,hb8⟩;have h8:=h7'.below hb8;have r8:=dT (cA hb8) r7;have hbut8:=hbut7.more (jY (S:=fun _=>False) hb8) (fun _ _ h=>h.elim);obtain⟨j0,j1,j2,j6,vB,jl⟩:=cJ r8 hcs hm;have hlive:=PI h8 e v hal;rw[hencv]at hlive)
        |(go_at_call 67;refine hlive.mono ?_;rintro e' w9 ⟨rfl,hb9,h9⟩;have r9:=dT (hb9.cells h8.maps) r8;have hbut9:dZ (dx bk ba bd bv G) w w9:=hbut8.trans hb9))
       go_meet
       case rel=>exact⟨hbut9,⟨0,by rw[hL];exact⟨h9,fun i hi hh=>MO h.ma.nd hal hh⟩⟩,r9⟩
end Go.Proofs
