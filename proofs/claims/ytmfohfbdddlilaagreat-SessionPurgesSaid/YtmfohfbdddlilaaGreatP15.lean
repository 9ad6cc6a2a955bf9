/- Part 15: an evaluator, proved sound, and its use at this seat; no condition. -/
import Derived.Deep.MidRow
import Derived.Deep.RegionHeld3
import Derived.Deep.Cut
import Derived.Test.YtmfohfbdddlilaaGreatP12
import Derived.Test.YtmfohfbdddlilaaGreatP14
set_option linter.unusedSimpArgs false
set_option linter.unusedVariables false
set_option linter.unusedSectionVars false
set_option linter.deprecated false
set_option maxRecDepth 100000
set_option maxHeartbeats 4000000
namespace Go.Proofs
open Go Go.Am Go.RowKit Go.Sy Go.Gm
def u9:ae:=⟨⟨0,0,0⟩,⟨0,0,0⟩,0,⟨[],[],[]⟩,⟨[],false,false,false,false,0,0,0⟩,[]⟩
def dU:Array Value:=#[.int .i64 0, .int .i64 0, .int .i64 0, .int .i64 0, .int .i64 0, .int .i64 0, .int .i64 0, .string ⟨#[]⟩, .string ⟨#[]⟩, .string ⟨#[]⟩, .string ⟨#[]⟩, .bool false, .bool false, .bool false, .bool false, .int .i64 0, .int .i64 0, .int .i64 0, .slice none 0 0]
theorem H7 {w:World} {bk:Nat} {L:List (aj×(Value×ae))} (hm:aB w bk bQ qT L) (d:aj):(Instr.lookup 99 (.map (some bk)) (bQ d) true).run Tryz.prog w= .ok (.tuple #[((aE L d).map (·.1)).getD (gS u9 (.slice none 0 0)), .bool (aE L d).isSome]) w:=by
 rw[hm.lookup iK Tryz.underlying99 (z:=gS u9 (.slice none 0 0)) (by kernel_rfl) d true]
 cases aE L d<;>rfl
theorem vS {B:Nat} {w0:World} {b:Nat} (hb:B<=b):∀(vs:List Value) (o:Nat) (w:World),Below B w0 w->Below B w0 (w.setCells b o vs)
 |[],_,_,h=>h
 |v::r,o,w,h=>by
  rw[World.setCells];exact vS hb r (o+1) _ (h.setCell hb v)
theorem Sd (W:World):(W.alloc (.cells dU 42)).drew.there W.heap.size 0 19:=fun j hj=>by
 have h:(W.alloc (.cells dU 42)).drew.heap[W.heap.size]? =some (.cells dU 42 (0,0)):=by
   show(W.alloc (.cells dU 42)).heap[W.heap.size]? =_
   rw[mQ,if_pos rfl]
 have hs:dU.size=19:=rfl;constructor
 . unfold World.cell?
   simp only[h,Ax,Bc,Ak,AB];rw[A7 (by omega)];rfl
 . unfold World.frozen?
   simp only[h];simp
theorem Ql (W:World) (e:ae) (v:Value) (hv:v.oneCell'=true):∃W4,(gS e v).cells.size=19/\(storeCells ⟨W.heap.size,0,none⟩ (gS e v).cells.toList).run Tryz.prog (W.alloc (.cells dU 42)).drew= .ok () W4/\Below W.heap.size W W4/\
  W4.cell? ⟨W.heap.size,6,none⟩=some (.int .i64 e.kind)/\W4.cell? ⟨W.heap.size,7,none⟩=some (db e.key.name)/\W4.cell? ⟨W.heap.size,8,none⟩=some (db e.key.domain)/\W4.cell? ⟨W.heap.size,9,none⟩=some (db e.key.path):=by
 have hth:=Sd W;have hr:=World.rangeAt_setCells_same (W.alloc (.cells dU 42)).drew W.heap.size 0 [.int .i64 e.dot.dev, .int .i64 e.dot.inc, .int .i64 e.dot.seq, .int .i64 e.bp.wall, .int .i64 e.bp.count, .int .i64 e.bp.dev, .int .i64 e.kind,db e.key.name,db e.key.domain,db e.key.path,
  db e.ab.value, .bool e.ab.aG, .bool e.ab.aV, .bool e.ab.aH, .bool e.ab.persistent, .int .i64 e.ab.aQ, .int .i64 e.ab.aq, .int .i64 e.ab.access,v] hth
 refine⟨_,rfl,run_storeCells_cells (P:=Tryz.prog) W.heap.size 0 (gS e v).cells.toList 0 _ (fun j hj=>(by simpa using(hth j hj).1)) (fun j hj=>(by simp)) ?_,vS (Ai _) _ _ _ ((Below.refl W.heap.size W).alloc (Ai _) _).drew,hr 6 _ rfl,hr 7 _ rfl,hr 8 _ rfl,hr 9 _ rfl⟩;intro x hx;rw[Cj]at hx;simp only[Value.cells,Aj,BT,DB]at hx;rcases hx with rfl|rfl|rfl|rfl|rfl|rfl|rfl|rfl|rfl|rfl|rfl|rfl|rfl|rfl|rfl|rfl|rfl|rfl|rfl
 all_goals first|exact hv|rfl
section
theorem Qx (d:aj) (w:World):(Builtin.delete_ #[101,35] 0 #[.map none,bQ d]).run Tryz.prog w= .ok (.tuple #[]) w:=by
 have h:(Instr.checkKey true 10000 35 (bQ d)).run Tryz.prog w= .ok () w:=iK.iM true d w;unfold Builtin.delete_;simp[run_underlying Tryz.underlying101,h]
section
variable {K V:Type} [DecidableEq K]
theorem Vt {A:List (K×V)} {k:K} (h:aE A k=none):dD A k=A:=by
 unfold dD;rw[Bz];intro x hx;simp only[AQ,Ah];rintro rfl;exact bK.1 h (Au.2 ⟨x,hx,rfl⟩)
theorem Xv (A:List (K×V)) (k:K) (v:V):dD (cw A k v) k=dD A k:=by
 have key:∀A:List (K×V),(A.map fun x=>if k=x.1 then(k,v)else x).filter (fun x=> !decide (k=x.1))=A.filter fun x=> !decide (k=x.1):=by
   intro A;induction A with
   |nil=>rfl
   |cons x A ih=>
    rw[AR,BG,BG,ih];by_cases e:k=x.1<;>simp[e]
 unfold cw dD;split
 . exact key A
 . rw[Dq];simp
end
theorem xe {S:Nat->Prop} {w:World} {j:Nat} {o:Obj} (hm:lJ w j) (hS:S j):eY S w (World.bc w j o):=⟨rfl,rfl,rfl,by simp[World.bc],fun k _ hk=>gp hm fun e=>hk (by rw[e];exact hS)⟩
theorem Tryz.kill {w:World} {n b bk ba bd bs bv:Nat} {G:bn} (h:cT w n b bk ba bd bs bv G) (d:aj):
  Calls Tryz.prog 73 #[.pointer (some ⟨b,0,none⟩),bQ d] w fun e' w'=>e'= .returned (.tuple #[])/\eY (eo bk ba bd bv G) w w'/\cT w' n b bk ba bd bs bv (kv G d):=by
 obtain⟨e,v,is,hv,hk,his,hG⟩:∃(e:ae) (v:Value) (is:Bool),v.oneCell'=true/\((aE G.kept d).map (·.1)).getD (gS u9 (.slice none 0 0))=gS e v/\(aE G.kept d).isSome=is/\
   kv G d={G with dead:=cw G.dead d 1,alive:=if is=true/\e.kind=1 then ot G.alive e.key d else G.alive}:=by
  cases hg:aE G.kept d with
  |none=>exact⟨u9, .slice none 0 0,false,rfl,rfl,rfl,by unfold kv;rw[hg];simp⟩
  |some x=>
   obtain⟨v,hx,hd⟩:=h.ev _ (mN hg);refine⟨x.2,v,true,?_,hx,rfl,by unfold kv;rw[hg];simp⟩;rcases hd with⟨_,a,c,rfl⟩|⟨_,_,_,_,_,_,rfl,_⟩<;>rfl
 obtain⟨G2,hG2⟩:∃G2,kv G d=G2:=⟨_,rfl⟩;rw[hG2]at hG⊢;obtain⟨W,hW⟩:∃W,(w.alloc (.cells #[.int .i64 d.dev, .int .i64 d.inc, .int .i64 d.seq] 35))=W:=⟨_,rfl⟩;have hb:Below w.heap.size w W:=by rw[<-hW];exact(Below.refl w.heap.size w).alloc (Ai _) _
 have h0:=h.below hb;have d0:W.cell? ⟨w.heap.size,0,none⟩=some (.int .i64 d.dev):=by rw[<-hW];simp
 have d1:W.cell? ⟨w.heap.size,1,none⟩=some (.int .i64 d.inc):=by rw[<-hW];simp
 have d2:W.cell? ⟨w.heap.size,2,none⟩=some (.int .i64 d.seq):=by rw[<-hW];simp
 have hsz:W.heap.size=w.heap.size+1:=by rw[<-hW];simp
 have h1:=h0.below (Below.refl W.heap.size W).drew;have c2:=h0.c2;obtain⟨es,clk,hu,hmu⟩:=h1.md.update iK Tryz.underlying101 d 1;have h2:=h1.pb hmu;have hmb:lJ W.drew bd:=aB.isMap h1.md;obtain⟨W2,hW2⟩:∃W2,World.bc W.drew bd (.map es clk)=W2:=⟨_,rfl⟩;have d0':W2.cell? ⟨w.heap.size,0,none⟩=some (.int .i64 d.dev):=by rw[<-hW2];exact qw hmb d0
 have d1':W2.cell? ⟨w.heap.size,1,none⟩=some (.int .i64 d.inc):=by rw[<-hW2];exact qw hmb d1
 have d2':W2.cell? ⟨w.heap.size,2,none⟩=some (.int .i64 d.seq):=by rw[<-hW2];exact qw hmb d2
 rw[hW2]at hu h2;have hbut:eY (eo bk ba bd bv G) w W2:=by
  refine(lW hb.drew).more (T:=(· =bd)) ⟨by rw[<-hW2];rfl,by rw[<-hW2];rfl,by rw[<-hW2];rfl,by rw[<-hW2];simp[World.bc],fun k _ hk=>by rw[<-hW2];exact gp hmb hk⟩ ?_;rintro i _ rfl;unfold eo;simp
 have hsz2:w.heap.size<W2.heap.size:=by rw[<-hW2];simp[World.bc,hsz]
 obtain⟨W4,hs19,hst,hb4,k6,k7,k8,k9⟩:=Ql W2 e v hv;obtain⟨u,hue⟩:∃u,u=gS e v:=⟨_,rfl⟩;rw[<-hue]at hst hk hs19;clear hue hv;obtain⟨W3,hW3⟩:∃W3,W2.alloc (.cells dU 42)=W3:=⟨_,rfl⟩;have hb3:Below W2.heap.size W2 W3:=by rw[<-hW3];exact(Below.refl W2.heap.size W2).alloc (Ai _) _
 rw[hW3]at hst;have h3:=h2.below hb3.drew;have c0:W3.cell? ⟨b,0,none⟩=some (.map (some bk)):=(h2.below hb3).c0;have d0'':W3.cell? ⟨w.heap.size,0,none⟩=some (.int .i64 d.dev):=(hb3.cell hsz2).trans d0';have d1'':W3.cell? ⟨w.heap.size,1,none⟩=some (.int .i64 d.inc):=(hb3.cell hsz2).trans d1';have d2'':W3.cell? ⟨w.heap.size,2,none⟩=some (.int .i64 d.seq):=(hb3.cell hsz2).trans d2';have h2d:=h2.below (Below.refl W2.heap.size W2).drew;have c0a:=h2.c0;have hlk:=H7 h3.iz d;have hlka:=H7 h2d.iz d;have h4:=h2.below hb4;have e0:W4.cell? ⟨w.heap.size,0,none⟩=some (.int .i64 d.dev):=(hb4.cell hsz2).trans d0';have e1:W4.cell? ⟨w.heap.size,1,none⟩=some (.int .i64 d.inc):=(hb4.cell hsz2).trans d1';have e2:W4.cell? ⟨w.heap.size,2,none⟩=some (.int .i64 d.seq):=(hb4.cell hsz2).trans d2';rw[show G.kept=({G with dead:=cw G.dead d 1}:bn).kept from rfl]at hk his;rw[hk,his]at hlk hlka;rw[show bQ d= .agg #[.int .i64 d.dev, .int .i64 d.inc, .int .i64 d.seq]from rfl]at hlk hlka hu⊢;rw[show cJ 1= .int .i64 1 from rfl]at hu;unfold dU at hW3;simp only[Value.cells]at hst hs19;clear h h0 h1 hmu hW2 h3 h2d hk;go_enter Tryz.func73,Tryz.ntmps73
 go_wp2_with fail
 go_region
 go_wp2_with fail
 go_region
 have hbut4:eY (eo bk ba bd bv G) w W4:=hbut.more (lW (S:=fun _=>False) hb4) fun _ _ h=>h.elim
 by_cases hin:is=true/\e.kind=1
 case neg=>
  rw[if_neg hin]at hG;have h5:cT W4 n b bk ba bd bs bv G2:=by rw[hG];exact h4
  clear hG2 hG
  cases is with
  |false=>
   go_wp2;refine bodyPost_ret (results_none rfl _ _ _) rfl ?_;exact⟨rfl,hbut4,h5⟩
  |true=>
   have hkd:¬e.kind=1:=fun hh=>hin ⟨rfl,hh⟩
   go_wp2;refine bodyPost_ret (results_none rfl _ _ _) rfl ?_;exact⟨rfl,hbut4,h5⟩
 case pos=>
  obtain⟨rfl,hkd⟩:=hin;rw[if_pos ⟨rfl,hkd⟩]at hG;rw[hkd]at k6;have h4d:=h4.below (Below.refl W4.heap.size W4).drew;have c1:=h4.c1;have hlk4:=jQ h4d.ma e.key;rw[show dx e.key= .agg #[db e.key.name,db e.key.domain,db e.key.path]from rfl]at hlk4;unfold ot at hG
  cases hj:aE G.alive e.key with
  |none=>
   rw[show({G with dead:=cw G.dead d 1}:bn).alive=G.alive from rfl,hj]at hlk4;rw[hj]at hG;simp only[Da]at hlk4;have hdn:=Qx d W4.drew;rw[show bQ d= .agg #[.int .i64 d.dev, .int .i64 d.inc, .int .i64 d.seq]from rfl]at hdn;have h5:=h4d.below (Below.refl W4.drew.heap.size W4.drew).drew;have h6:=h5.below (Below.refl W4.drew.drew.heap.size W4.drew.drew).drew;have hlk5:=jQ h5.ma e.key;rw[show dx e.key= .agg #[db e.key.name,db e.key.domain,db e.key.path]from rfl]at hlk5;rw[show({G with dead:=cw G.dead d 1}:bn).alive=G.alive from rfl,hj]at hlk5;simp only[Da]at hlk5;obtain⟨es6,clk6,hu6,hm6⟩:=h6.ma.delete (ts:=#[100,24]) (ty:=0) yR Tryz.underlying100 e.key rfl;rw[show dx e.key= .agg #[db e.key.name,db e.key.domain,db e.key.path]from rfl]at hu6;have h7:=h6.kj hm6;rw[show({G with dead:=cw G.dead d 1}:bn).alive=G.alive from rfl,Vt hj]at h7;have hb7:eY (eo bk ba bd bv G) w (World.bc W4.drew.drew.drew ba (.map es6 clk6)):=hbut4.drew.drew.drew.trans (xe (S:=eo bk ba bd bv G) (aB.isMap h6.ma) (by unfold eo;simp));have h8:cT (World.bc W4.drew.drew.drew ba (.map es6 clk6)) n b bk ba bd bs bv G2:=by rw[hG];exact h7
   clear h4 h4d h5 h6 h7 hm6 hG hG2;go_wp2_with fail
   go_region
   go_wp2_with fail
   go_region
   go_wp2_with fail
   go_region
   go_wp2;go_end0
   exact⟨rfl,hb7,h8⟩
  |some x=>
   obtain⟨j,L⟩:=x;have hj':aE ({G with dead:=cw G.dead d 1}:bn).alive e.key=some (j,L):=hj;rw[hj']at hlk4;rw[hj]at hG;simp only[A8]at hlk4;simp only at hG;have hjm:=mN hj';obtain⟨es5,clk5,hu5,hm5⟩:=(h4d.mi _ hjm).delete (ts:=#[101,35]) (ty:=0) iK Tryz.underlying101 d rfl;rw[show bQ d= .agg #[.int .i64 d.dev, .int .i64 d.inc, .int .i64 d.seq]from rfl]at hu5;have h5:=h4d.iJ hj' hm5;have hmj:lJ W4.drew j:=aB.isMap (h4d.mi _ hjm);have hb5:eY (eo bk ba bd bv G) w (World.bc W4.drew j (.map es5 clk5)):=hbut4.drew.trans (xe (S:=eo bk ba bd bv G) hmj (by unfold eo;simp only[Aj,Au];exact .inr (.inr (.inr (.inr ⟨_,mN hj,rfl⟩)))));obtain⟨W5,hW5⟩:∃W5,World.bc W4.drew j (.map es5 clk5)=W5:=⟨_,rfl⟩;have q7:W5.cell? ⟨W2.heap.size,7,none⟩=some (db e.key.name):=by rw[<-hW5];exact qw hmj k7
   have q8:W5.cell? ⟨W2.heap.size,8,none⟩=some (db e.key.domain):=by rw[<-hW5];exact qw hmj k8
   have q9:W5.cell? ⟨W2.heap.size,9,none⟩=some (db e.key.path):=by rw[<-hW5];exact qw hmj k9
   rw[hW5]at hu5 h5 hb5;have c1':=h5.c1;have hget:aE (cw G.alive e.key (j,dD L d)) e.key=some (j,dD L d):=by rw[iO];simp
   have h6:=h5.below (Below.refl W5.heap.size W5).drew;have hlk6:=jQ h6.ma e.key;rw[show dx e.key= .agg #[db e.key.name,db e.key.domain,db e.key.path]from rfl,show({G with dead:=cw G.dead d 1,alive:=cw G.alive e.key (j,dD L d)}:bn).alive=cw G.alive e.key (j,dD L d)from rfl,hget]at hlk6;simp only[A8]at hlk6;obtain⟨esl,clkl,hbl,hszl⟩:=(h6.mi _ (mN hget)).len;have hlen:(Builtin.len_ #[101] 3 #[.map (some j)]).run Tryz.prog W5.drew= .ok (.int .i64 (dD L d).length) W5.drew:=by
     rw[run_len_map W5.drew 101 3 j esl clkl (by simp[Program.mapKeyOf,Program.mapElemOf,Tryz.underlying101]) hbl,hszl];rfl
   by_cases hnil:dD L d=[]
   . rw[if_pos hnil]at hG;have hz:((dD L d).length:Int)=0:=by rw[hnil];rfl
     rw[hz]at hlen;have h7:=h6.below (Below.refl W5.drew.heap.size W5.drew).drew;obtain⟨es8,clk8,hu8,hm8⟩:=h7.ma.delete (ts:=#[100,24]) (ty:=0) yR Tryz.underlying100 e.key rfl;rw[show dx e.key= .agg #[db e.key.name,db e.key.domain,db e.key.path]from rfl]at hu8;have h8:=h7.kj hm8;rw[show({G with dead:=cw G.dead d 1,alive:=cw G.alive e.key (j,dD L d)}:bn).alive=cw G.alive e.key (j,dD L d)from rfl,Xv]at h8;have hb9:eY (eo bk ba bd bv G) w (World.bc W5.drew.drew ba (.map es8 clk8)):=hb5.drew.drew.trans (xe (S:=eo bk ba bd bv G) (aB.isMap h7.ma) (by unfold eo;simp));have h9:cT (World.bc W5.drew.drew ba (.map es8 clk8)) n b bk ba bd bs bv G2:=by rw[hG];exact h8
     clear h4 h4d h5 h6 h7 h8 hm8 hm5 hG hG2 hget hbl hnil hj hj' hW5;go_wp2_with fail
     go_region
     go_wp2_with fail
     go_region
     go_wp2_with fail
     go_region
     go_wp2;go_end0
     exact⟨rfl,hb9,h9⟩
   . rw[if_neg hnil]at hG;have hz:decide (((dD L d).length:Int)=0)=false:=Br (by
      intro h0;exact hnil (AN.1 (by omega)))
     have h9:cT W5.drew n b bk ba bd bs bv G2:=by rw[hG];exact h6
     have hz':((((dD L d).length:Int))==0)=false:=by simpa using hz
     clear h4 h4d h5 h6 hm5 hG hG2 hget hbl hj hj' hW5;go_wp2_with fail
     go_region
     go_wp2_with fail
     go_region
     go_wp2;go_end0
     exact⟨rfl,hb5.drew,h9⟩
end
def cX (e:ae) (v:Value):List Value:=[.int .i64 e.dot.dev, .int .i64 e.dot.inc, .int .i64 e.dot.seq, .int .i64 e.bp.wall, .int .i64 e.bp.count, .int .i64 e.bp.dev, .int .i64 e.kind,db e.key.name,db e.key.domain,db e.key.path,
 db e.ab.value, .bool e.ab.aG, .bool e.ab.aV, .bool e.ab.aH, .bool e.ab.persistent, .int .i64 e.ab.aQ, .int .i64 e.ab.aq, .int .i64 e.ab.access,v]
theorem zE {e:ae} {v:Value} (hv:v.oneCell'=true):∀x∈cX e v,x.oneCell'=true:=by
 intro x hx;simp only[cX,Aj,BT,DB]at hx;rcases hx with rfl|rfl|rfl|rfl|rfl|rfl|rfl|rfl|rfl|rfl|rfl|rfl|rfl|rfl|rfl|rfl|rfl|rfl|rfl
 all_goals first|exact hv|rfl
theorem Qm:∃fs,Tryz.prog.underlying 42=some (.struct fs):=⟨_,Tryz.underlying42⟩
theorem QC {W:World} {b:Nat} {e:ae} {v:Value} (h:W.rangeAt b 0 (cX e v)):(loadVar 42 ⟨b,0,none⟩).run Tryz.prog W= .ok (gS e v) W:=by
 obtain⟨fs,hu⟩:=Qm;exact run_loadVar_mid W b 0 42 (cX e v) _ h hu rfl (by kernel_rfl)
theorem G9 {W:World} {b:Nat} {e:ae} {v:Value} (h:W.rangeAt b 0 (cX e v)):(loadCellsFrom ⟨b,0,none⟩ 0 19 #[]).run Tryz.prog W= .ok (cX e v).toArray W:=by
 have hl:(loadCells ⟨b,0,none⟩ (cX e v).length).run Tryz.prog W= .ok (cX e v).toArray W:=
  run_loadCells_list (P:=Tryz.prog) W ⟨b,0,none⟩ (cX e v) (fun j v hv=>by rw[Addr.add_mid];exact h j v hv)
 exact hl
def Hid (p:Prop):Prop:=p
theorem uv:∃(SZ:Sem Nat) (m:Nat),sizeOf 42=SZ/\(∀w,SZ.run Tryz.prog w= .ok m w)/\Hid (m=19):=⟨_,_,rfl,Tryz.sizeOf42,rfl⟩
theorem Ht {W:World} {b:Nat} {e:ae} {v:Value} (hv:v.oneCell'=true) (hth:W.there b 0 19):(gS e v).cells.size=19/\(storeCells ⟨b,0,none⟩ (gS e v).cells.toList).run Tryz.prog W= .ok () (W.setCells b 0 (cX e v)):=
 ⟨rfl,run_storeCells_cells (P:=Tryz.prog) b 0 (cX e v) 0 W (fun j hj=>(by simpa using(hth j hj).1)) (fun j hj=>(by simpa using(hth j hj).2)) (zE hv)⟩
theorem ug (W:World) (e:ae) (v:Value):(W.alloc (.cells (gS e v).cells 42)).rangeAt W.heap.size 0 (cX e v):=fun j x hx=>by
 have h:(W.alloc (.cells (gS e v).cells 42)).heap[W.heap.size]? =some (.cells (cX e v).toArray 42 (0,0)):=by
  rw[mQ,if_pos rfl];rfl
 unfold World.cell?
 simp only[h,Ax,Bc,Ak,AB];simpa using hx
theorem gh {W W':World} (hc:jh W W') {b o:Nat} {cs:List Value} (h:W.rangeAt b o cs):W'.rangeAt b o cs:=fun j x hx=>by
 have h1:=h j x hx;refine eF h1 ?_;unfold World.cell? at h1
 cases e:W.heap[b]? with
 |none=>simp[e]at h1
 |some q=>
  cases q with
  |cells arr t fz=>exact hc _ _ _ _ e
  |_=>simp[e]at h1
theorem zz {W W':World} (hc:jh W W') {b n:Nat} (h:W.there b 0 n) (hn:0<n):W'.there b 0 n:=by
 have h1:=(h 0 hn).1;have hb:W'.heap[b]? =W.heap[b]? :=by
  obtain⟨u,hu⟩:=BM.1 h1;unfold World.cell? at hu
  cases e:W.heap[b]? with
  |none=>simp[e]at hu
  |some q=>
   cases q with
   |cells arr t fz=>exact hc _ _ _ _ e
   |_=>simp[e]at hu
 intro j hj;have h2:=h j hj;unfold World.cell? World.frozen? at h2⊢;rw[hb];exact h2
theorem zu (W:World) (cs:Array Value):(W.alloc (.cells cs 42)).there W.heap.size 0 cs.size:=fun j hj=>by
 have h:(W.alloc (.cells cs 42)).heap[W.heap.size]? =some (.cells cs 42 (0,0)):=by rw[mQ,if_pos rfl]
 constructor
 . unfold World.cell?
   simp only[h,Ax,Bc,Ak,AB];rw[A7 hj];rfl
 . unfold World.frozen?
   simp only[h];simp
theorem TQ {W W':World} {b n:Nat} (hb:W'.heap[b]? =W.heap[b]?) (h:W.there b 0 n):W'.there b 0 n:=by
 intro j hj;have h2:=h j hj;unfold World.cell? World.frozen? at h2⊢;rw[hb];exact h2
theorem Sk {W:World} {b:Nat} {e:ae} {v v':Value} (h:W.rangeAt b 0 (cX e v)):(W.setCell ⟨b,18,none⟩ v').rangeAt b 0 (cX e v'):=by
 have h18:=h 18 v rfl;intro j x hx;have hj:j<19:=(Ab.1 hx).1;by_cases e18:j=18
 . subst e18
   cases hx;exact World.cell?_setCell_same' _ _ _ (by rw[show(⟨b,18,none⟩:Addr)=⟨b,0+18,none⟩from rfl,h18];rfl)
 . have hx':(cX e v)[j]? =some x:=by
     match j,hj with
     |0,_|1,_|2,_|3,_|4,_|5,_|6,_|7,_|8,_|9,_|10,_|11,_|12,_|13,_|14,_|15,_|16,_|17,_=>exact hx
     |18,_=>exact absurd rfl e18
   rw[World.cell?_setCell_other]
   . exact h j x hx'
   . intro he;have:=Ap Addr.off he;simp at this;omega
theorem Rw {fn:Func} {t:Tmp} {ty:TypeId} (h:fn.results=#[.cell t ty]) {tmps:Array Value} {w:World} {a:Addr} {v:Value} (hp:tmps.getD t undef= .pointer (some a)) (hl:(loadVar ty a).run Tryz.prog w= .ok v w):(results fn tmps).run Tryz.prog w= .ok v w:=by
 have hp':tmps[t]?.getD undef= .pointer (some a):=by simpa using hp
 simp[results,h,asAddr,hp',hl]
theorem cF.one {w:World} {l:List aj} {v:Value} (h:cF w l v):∃a n c,v= .slice a n c:=by
 rcases h with⟨_,a,c,rfl⟩|⟨_,_,_,_,_,_,rfl,_⟩<;>exact⟨_,_,_,rfl⟩
theorem Io {B:Nat} (b:Nat):∀(vs:List Value) (o:Nat) (w:World) (k:Nat),k≠b->(w.setCells b o vs).heap[k]? =w.heap[k]?
 |[],_,_,_,_=>rfl
 |v::r,o,w,k,h=>by
  rw[World.setCells,Io (B:=B) b r (o+1) _ k h];exact Below.heap_setCell w ⟨b,o,none⟩ v k h
theorem II (b:Nat):∀(vs:List Value) (o:Nat) (w:World),(w.setCells b o vs).heap.size=w.heap.size
 |[],_,_=>rfl
 |v::r,o,w=>by rw[World.setCells,II b r (o+1)];simp
def pW (w:World) (n:Nat) (u:Value) (e:ae):Prop:=∃v,u=gS e v/\dG w n e.over v
theorem pW.ev {w:World} {n:Nat} {u:Value} {e:ae} (h:pW w n u e):iX w u e:=by
 obtain⟨v,h1,h2⟩:=h;exact⟨v,h1,h2.cL⟩
theorem pW.mono {w:World} {n m:Nat} {u:Value} {e:ae} (h:pW w n u e) (hm:m<=n):pW w m u e:=by
 obtain⟨v,h1,h2⟩:=h;exact⟨v,h1,h2.mono hm⟩
theorem Qr {w3:World} {bx bz n:Nat} {e:ae} {v v':Value} (r3:w3.rangeAt bx 0 (cX e v)) (t3:w3.there bx 0 19) (t4:w3.there bz 0 19) (hne:bz≠bx) (hd:dG w3 n e.over v') (hx:bx<n) (hz:bz<n):
   ∃cs W4 W5,w3.setCell ⟨bx,18,none⟩ v'=W4/\w3.cell? ⟨bx,18,none⟩=some v/\w3.frozen? ⟨bx,18,none⟩=false/\(loadCellsFrom ⟨bx,0,none⟩ 0 19 #[]).run Tryz.prog W4= .ok cs W4/\cs.size=19/\(storeCells ⟨bz,0,none⟩ cs.toList).run Tryz.prog W4= .ok () W5/\
    (loadVar 42 ⟨bz,0,none⟩).run Tryz.prog W5= .ok (.agg cs) W5/\pW W5 n (.agg cs) e/\ ∀B,B<=bx->B<=bz->Below B w3 W5:=by
 have hv:=hd.one;obtain⟨sa,sn,sc,rfl⟩:=hv;have r4:(w3.setCell ⟨bx,18,none⟩ (.slice sa sn sc)).rangeAt bx 0 (cX e (.slice sa sn sc)):=Sk r3;have t5:(w3.setCell ⟨bx,18,none⟩ (.slice sa sn sc)).there bz 0 19:=TQ (Below.heap_setCell _ _ _ _ hne) t4;obtain⟨s19,hst⟩:=Ht (e:=e) (v:= .slice sa sn sc) rfl t5;have r5:=World.rangeAt_setCells_same (w3.setCell ⟨bx,18,none⟩ (.slice sa sn sc)) bz 0 (cX e (.slice sa sn sc)) t5;refine⟨(cX e (.slice sa sn sc)).toArray,_,_,rfl,r3 18 v rfl,(t3 18 (by omega)).2,G9 r4,rfl,hst,QC r5,⟨_,rfl,hd.aX fun b _ hb _=>?_⟩,fun B h1 h2=>?_⟩
 . rw[Io (B:=0) bz _ _ _ _ (by omega),Below.heap_setCell _ _ _ _ (by show b≠bx;omega)]
 . exact vS h2 _ _ _ ((Below.refl _ _).setCell h1 _)
theorem HU {w:World} {e:ae} {u:Value} (h:iX w u e) (hl:e.over.length<=100000):Calls Tryz.prog 70 #[u] w fun e' w'=>∃u',e'= .returned u'/\pW w' w.heap.size u' e/\Below w.heap.size w w':=by
 obtain⟨v,hu,hd⟩:=h;obtain⟨va,vn,vc,hve⟩:=hd.one;obtain⟨cs,hcs⟩:∃cs:Array Value,(cX e v).toArray=cs:=⟨_,rfl⟩;have hu':u= .agg cs:=by rw[hu,<-hcs];rfl
 clear hu;subst hu';obtain⟨W,hW⟩:∃W,w.alloc (.cells cs 42)=W:=⟨_,rfl⟩;have hb:Below w.heap.size w W:=by rw[<-hW];exact(Below.refl w.heap.size w).alloc (Ai _) _
 have hr:W.rangeAt w.heap.size 0 (cX e v):=by rw[<-hW,<-hcs];exact ug w e v
 have hs:W.heap.size=w.heap.size+1:=by rw[<-hW];simp
 have ht:W.there w.heap.size 0 19:=by
  have:=zu w cs;rw[hW,show cs.size=19 by rw[<-hcs];rfl]at this;exact this
 obtain⟨W2,hW2⟩:∃W2,W.alloc (.cells dU 42)=W2:=⟨_,rfl⟩;have hb2:Below W.heap.size W W2:=by rw[<-hW2];exact(Below.refl W.heap.size W).alloc (Ai _) _
 have ht2:W2.there W.heap.size 0 19:=by
  have:=zu W dU;rw[hW2]at this;exact this
 have hs2:W2.heap.size=w.heap.size+2:=by rw[<-hW2];simp[hs]
 have hc2:jh w W2:=fun b arr t fz hx=>eu hb2 _ _ _ _ (eu hb _ _ _ _ hx)
 have k18:W2.cell? ⟨w.heap.size,18,none⟩=some v:=gh (eu hb2) hr 18 v rfl;have hcall:=OW (hd.cells hc2) hl;rw[hve]at hcall k18;obtain⟨SZ,m,hSZ,hsz,hm⟩:=uv;have hr2:W2.rangeAt w.heap.size 0 (cX e v):=gh (eu hb2) hr;have ht1:W2.there w.heap.size 0 19:=zz (eu hb2) ht (by omega);rw[hs]at ht2;unfold dU at hW2;clear hcs hve;go_enter Tryz.func70,Tryz.ntmps70
 go_wp2_with (go_at_call 112;go_loud (refine hcall.mono ?_;rintro e' w3 ⟨v',rfl,hd3,hb3⟩;obtain⟨cs',W4,W5,hW4,k3,f3,x1,s19,hst,x2,hev,hbel⟩:=Qr (gh (eu hb3) hr2) (zz (eu hb3) ht1 (by omega)) (zz (eu hb3) ht2 (by omega)) (by omega) hd3 (by omega) (by omega);obtain⟨sa,sn,sc,rfl⟩:=hd3.one;rw[<-(hm:m=19)]at x1 s19;clear hm;have hbf:=(hb.trans ((hb2.mono (by omega)).trans (hb3.mono (by omega)))).trans (hbel w.heap.size (Ai _) (by omega))))
 refine bodyPost_ret (Rw rfl rfl x2) rfl ?_;exact⟨_,rfl,hev.mono (by omega),hbf⟩
theorem Qy {w:World} {e:ae} {u:Value} (h:iX w u e) (hl:e.over.length<=100000):Calls Tryz.prog 70 #[u] w fun e' w'=>∃u',e'= .returned u'/\iX w' u' e/\Below w.heap.size w w':=by
 refine(HU h hl).mono ?_;rintro e' w' ⟨u',rfl,h1,h2⟩;exact⟨u',rfl,h1.ev,h2⟩
end Go.Proofs
namespace Go.Proofs
open Go Go.Am Go.RowKit Go.Sy Go.Gm Go.Maps Go.Sort Go.Shelf
theorem kM.mono {n m:Nat} {l:List aj} {v:Value} (h:kM n l v) (hm:m<=n):kM m l v:=by
 rcases h with h|⟨b,off,k,c,h,hb⟩
 . exact .inl h
 . exact .inr ⟨b,off,k,c,h,Aq hm hb⟩
theorem P6 (b:Nat) (w:World):Calls Tryz.prog 183 #[.map (some b)] w fun e w'=>e= .returned (.func (.func 231) #[] #[.pointer (some ⟨w.heap.size,0,none⟩)])/\w'=w.alloc (.cells #[.map (some b)] 101):=by
 go_enter Tryz.func183,Tryz.ntmps183
 go_wp2;go_ret;exact⟨rfl,rfl⟩
theorem Qk {w:World} {Bm b:Nat} {L:DL} (hm:w.cell? ⟨Bm,0,none⟩=some (.map (some b))) (hown:aB w b bQ cJ L) (hl:L.length<=1000000):
  Calls Tryz.prog 182 #[.func (.func 231) #[] #[.pointer (some ⟨Bm,0,none⟩)], .func (.func 184) #[] #[]] w fun e w'=>∃v,e= .returned v/\cF w' (cS bS (L.map (·.1))) v/\kM w.heap.size (cS bS (L.map (·.1))) v/\Below w.heap.size w w':=by
 letI:Inhabited aL:=⟨⟨True,#[]⟩⟩
 have hcol:=callsIn_wide.1 (OS 3 (Ai _) _ _ L.length hl w (O4 1 (Ai _) Bm b L w (iC hm) hm hown));go_enter Tryz.func182,Tryz.ntmps182
 go_wp2_with (first
  |(go_at_call 229;refine hcol.mono ?_;rintro e w1 ⟨v,ss,rfl,hS,hrow,hb1⟩;have hnd:ss.Nodup:=hS.nodup_iff.2 hown.nd;have hsl:ss.length<=1000000:=hS.length_eq.trans (Bf _)▸hl;have hsort:=Pk hnd hrow hsl hb1.size)
  |(go_at_call 230;refine hsort.mono ?_;rintro e w2 ⟨rfl,hd,hn,hb2⟩))
 go_ret;have heq:cS bS ss=cS bS (L.map (·.1)):=uF (wj ss) fun x=>by rw[oN];exact hS.mem_iff
 rw[heq]at hd hn;exact⟨v,rfl,hd,hn,hb1.trans hb2⟩
theorem rQ {w:World} {bd:Nat} {L:DL} (hm:aB w bd bQ cJ L) (d:aj):(Instr.lookup 101 (.map (some bd)) (bQ d) false).run Tryz.prog w= .ok (.int .i64 ((aE L d).getD 0)) w:=by
 rw[hm.lookup iK Tryz.underlying101 (vt w) d false]
 cases aE L d<;>rfl
theorem T5 {K V:Type} [DecidableEq K] [Inhabited V] {L:List (K×V)} {k:K} (hk:k∉L.map (·.1)) (z:V):aE (L++[(k,z)]) k=some z:=by
 have:=iO L k k z;unfold cw at this;rw[if_neg hk,if_pos rfl]at this;exact this
theorem VO {K V:Type} [DecidableEq K] {L:List (K×V)} {k:K} {v:V} (x:K):x∈(cw L k v).map (·.1)↔x=k\/x∈L.map (·.1):=by
 have h:=iO L k x v;by_cases e:x=k
 . rw[if_pos e]at h;refine⟨fun _=> .inl e,fun _=>?_⟩;by_cases hm:x∈(cw L k v).map (·.1)
   . exact hm
   . rw[bK.2 hm]at h;cases h
 . rw[if_neg e]at h;constructor
   . intro hm;refine .inr ?_;by_cases hn:x∈L.map (·.1)
     . exact hn
     . rw[bK.2 hn]at h;exact absurd hm (bK.1 h)
   . rintro(hm|hm)
     . exact absurd hm e
     . by_cases hn:x∈(cw L k v).map (·.1)
       . exact hn
       . rw[bK.2 hn]at h;exact absurd hm (bK.1 h.symm)
theorem WB {l:List aj} {k:Nat} (hlt:k<l.length) {M:DL} {v:Int} (h:∀d,d∈M.map (·.1)↔d∈l.take k):∀d,d∈(cw M l[k] v).map (·.1)↔d∈l.take (k+1):=fun d=>by
 rw[VO,h,Fb,Af hlt,A9];simp only[Option.toList_some,BQ];exact or_comm
theorem Xp {M:DL} {d:aj} {v:Int} {k:Nat} (h:M.length<=k):(cw M d v).length<=k+1:=by
 unfold cw;split
 . rw[Bf];omega
 . simp;omega
theorem XO {M:DL} {k:Nat} (h:∀d,0<=(aE M d).getD 0/\(aE M d).getD 0<=(k:Int)) {e:aj}:∀d,0<=(aE (cw M e ((aE M e).getD 0+1)) d).getD 0/\(aE (cw M e ((aE M e).getD 0+1)) d).getD 0<=((k+1:Nat):Int):=fun d=>by
 rw[iO];have h1:=h e;have h2:=h d;split
 . simp only[AU];omega
 . omega
theorem HT {w:World} {l:List aj} {v:Value} (h:cF w l v) (hl:l.length<=1000000):
  Calls Tryz.prog 156 #[v] w fun e w'=>∃v',e= .returned v'/\cF w' (cS bS l) v'/\kM w.heap.size (cS bS l) v'/\Below w.heap.size w w':=by
 letI:Inhabited aL:=⟨⟨True,#[]⟩⟩
 obtain⟨sa,sn,sc,rfl⟩:=h.one;have hsn:sn=l.length:=by
  rcases h with⟨h0,a,c,hh⟩|⟨_,_,_,_,_,_,hh,_⟩
  . cases hh;rw[h0];rfl
  . cases hh;rfl
 subst hsn;have hmm:= @run_makeMap Tryz.prog;go_enter Tryz.func156,Tryz.ntmps156
 go_wp2;go_loopw [9] (fun i wr=>∃(k:Nat) (M:DL),k<=l.length/\i= .int .i64 k/\aB wr w.heap.size bQ cJ M/\(∀d,d∈M.map (·.1)↔d∈l.take k)/\M.length<=k/\(∀d,0<=(aE M d).getD 0/\(aE M d).getD 0<=k)/\Below w.heap.size w wr)
  (fun i _=>l.length - (intOf i).toNat)
 case atStart=>exact⟨0,[],Aw _,rfl,sg (by rw[mQ,if_pos rfl]),by simp,Aw _,fun d=>by simp[nV],(Below.refl _ _).alloc (Ai _) _⟩
 case round=>
  obtain⟨k,M,hk,rfl,hM,hmem,hml,hcnt,hbr⟩:=hrel;by_cases hlt:k<l.length
  . rcases h with⟨h0,_⟩|⟨ob,off,cap,arr,ty,fz,hh,hob,hcap,hlen,hcells⟩
    . rw[h0]at hlt;exact absurd hlt (Be _)
    . simp only[Value.slice.injEq]at hh;obtain⟨rfl, -,rfl⟩:=hh;obtain⟨x0,x1,x2⟩:=hcells k hlt;have hobr:=(hbr.block ob (Ae.1 hob).1).trans hob;have cell:∀{j:Nat} {u:Value},arr[j]? =some u->wr.cell? ⟨ob,j,none⟩=some u:=fun hx=>by
       unfold World.cell?;simp only[hobr,Bc,Ak,AB];exact hx
      have c0:=cell x0;have c1:=cell x1;have c2:=cell x2;obtain⟨W,hW⟩:∃W,wr.alloc (.cells #[.int .i64 l[k].dev, .int .i64 l[k].inc, .int .i64 l[k].seq] 35)=W:=⟨_,rfl⟩;have hbW:Below wr.heap.size wr W:=by rw[<-hW];exact(Below.refl _ _).alloc (Ai _) _
      have d0:W.cell? ⟨wr.heap.size,0,none⟩=some (.int .i64 l[k].dev):=by rw[<-hW];simp
      have d1:W.cell? ⟨wr.heap.size,1,none⟩=some (.int .i64 l[k].inc):=by rw[<-hW];simp
      have d2:W.cell? ⟨wr.heap.size,2,none⟩=some (.int .i64 l[k].seq):=by rw[<-hW];simp
      have hMW:aB W.drew w.heap.size bQ cJ M:=hM.same (hbW.drew.block _ (Go.Gm.aB.lt hM));have hlk:=rQ hMW l[k];have hz0:=(hcnt l[k]).1;have hz1:=(hcnt l[k]).2;have hwr:IntKind.i64.wrap ((aE M l[k]).getD 0+1)=(aE M l[k]).getD 0+1:=IntWalk.i64_in _ (by omega);have hwr':wrap64 ((aE M l[k]).getD 0+1)=(aE M l[k]).getD 0+1:=IntWalk.wrap64_in _ (by omega);obtain⟨ev,en,o1,o2,he1,he2,hmb,hM2,hM1⟩:=hMW.entry iK Tryz.underlying101 (z:=0) (fun w=>vt w) l[k] ((aE M l[k]).getD 0+1);have hlk1:(Instr.lookup 101 (.map (some w.heap.size)) (bQ l[k]) false).run Tryz.prog (World.bc W.drew w.heap.size o1)= .ok (.int .i64 ((aE M l[k]).getD 0)) (World.bc W.drew w.heap.size o1):=by
       rcases hM1 with hM1|⟨hk1,hM1⟩
       . exact rQ hM1 l[k]
       . rw[rQ hM1 l[k],T5 hk1,bK.2 hk1];rfl
      have hs1:∀j,j≠w.heap.size->(World.bc W.drew w.heap.size o1).heap[j]? =W.heap[j]? :=fun j hj=>gp hMW.isMap hj
      have hs2:∀j,j≠w.heap.size->(World.bc (World.bc W.drew w.heap.size o1) w.heap.size o2).heap[j]? =W.heap[j]? :=fun j hj=>(gp hmb hj).trans (hs1 j hj)
      have hne:wr.heap.size≠w.heap.size:=Nat.ne_of_gt (Go.Gm.aB.lt hM);have hB2:Below w.heap.size w (World.bc (World.bc W.drew w.heap.size o1) w.heap.size o2):=⟨hbW.os.trans hbr.os,hbW.tape.trans hbr.tape,hbW.output.trans hbr.output,by have h1:=hbW.size;have h2:=hbr.size;simp[World.bc];omega,fun j hj=>((hs2 j (Nat.ne_of_lt hj)).trans (hbW.block j (AY hj hbr.size))).trans (hbr.block j hj)⟩;obtain⟨W1,hW1⟩:∃W1,World.bc W.drew w.heap.size o1=W1:=⟨_,rfl⟩;rw[hW1]at he1 he2 hmb hM2 hlk1 hs1 hs2 hB2;obtain⟨W2,hW2⟩:∃W2,World.bc W1 w.heap.size o2=W2:=⟨_,rfl⟩;rw[hW2]at he2 hM2 hs2 hB2;have p0:W2.cell? ⟨wr.heap.size,0,none⟩=some (.int .i64 l[k].dev):=eF d0 (hs2 _ hne);have p1:W2.cell? ⟨wr.heap.size,1,none⟩=some (.int .i64 l[k].inc):=eF d1 (hs2 _ hne);have p2:W2.cell? ⟨wr.heap.size,2,none⟩=some (.int .i64 l[k].seq):=eF d2 (hs2 _ hne);have q0:W1.cell? ⟨wr.heap.size,0,none⟩=some (.int .i64 l[k].dev):=eF d0 (hs1 _ hne);have q1:W1.cell? ⟨wr.heap.size,1,none⟩=some (.int .i64 l[k].inc):=eF d1 (hs1 _ hne);have q2:W1.cell? ⟨wr.heap.size,2,none⟩=some (.int .i64 l[k].seq):=eF d2 (hs1 _ hne);clear hM1 hmb hMW hs1 hs2;rw[show bQ l[k]= .agg #[.int .i64 l[k].dev, .int .i64 l[k].inc, .int .i64 l[k].seq]from rfl]at hlk hlk1 he1;rw[show cJ ((aE M l[k]).getD 0+1)= .int .i64 ((aE M l[k]).getD 0+1)from rfl]at he2;unfold goInt at he1 he2;go_wp2;go_region_held3 (fun w'=>w'.cell? ⟨wr.heap.size,0,none⟩=some (.int .i64 l[k].dev)/\w'.cell? ⟨wr.heap.size,1,none⟩=some (.int .i64 l[k].inc)/\w'.cell? ⟨wr.heap.size,2,none⟩=some (.int .i64 l[k].seq)) (simp[*]) (fail)
      all_goals go_wp2
      all_goals (
       go_roundw
       case rel=>exact⟨k+1,_,hlt,by go_num,hM2,WB hlt hmem,Xp hml,XO hcnt,hB2⟩
       case measure=>simp[intOf];omega)
  . have hkl:k=l.length:=by omega
    subst hkl;rw[Bp]at hmem;have hmk:=P6 w.heap.size wr;go_wp2_with (first
      |(go_at_call 183;refine hmk.mono ?_;rintro e w1 ⟨rfl,rfl⟩;have hsf:=Qk (w:=wr.alloc (.cells #[.map (some w.heap.size)] 101)) (Bm:=wr.heap.size) (by simp) (hM.same (Below.heap_alloc _ _ _ (Go.Gm.aB.lt hM))) (Aq hml hl))
      |(go_at_call 182;refine hsf.mono ?_;rintro e w2 ⟨v',rfl,hd,hn,hb2⟩))
    go_ret;have heq:cS bS (M.map (·.1))=cS bS l:=uF (wj _) fun x=>by rw[oN];exact hmem x
    rw[heq]at hd hn;have hs1:=hbr.size;exact⟨v',rfl,hd,kM.mono hn (by simp;omega),hbr.trans (((Below.refl _ _).alloc hs1 _).trans (hb2.mono (by simp;omega)))⟩
theorem Rc {P:Program} {ops:Array Oper} {o:Oper} {a:Act} {w:World} {K:Act->World->Prop} {Q:Exit->Act->World->Prop} {E:Prop} (hg:o.guard=none) (s x:Operand) (t:TypeId)
  (ho:o.op= .call {callee:= .builtin .append,args:=#[s,x],argTypes:=#[t,t]})
  (base:Nat) (e:TypeId) (i:TypeInfo) (z:Value) (size bytes:Nat) (ht:P.underlying t=some (.slice e)) (hi:P.info? e=some i) (hz:i.zero=some z)
  (hsize:i.size=size) (hby:i.bytes=bytes) (hzs:z.cells.size=size) (hsz:0<size)
  (v:Value) (n:Nat) (xs:List Value) (hs:a.eval s=v) (hown:w.ownsRow base e size v n xs)
  (ad:Addr) (m c:Nat) (news:List Value) (hx:a.eval x= .slice (some ad) m c) (hl:news.length=m*size) (hnews:∀j u,news[j]? =some u->w.cell? (ad.add j)=some u) (h1:∀u∈news,u.oneCell'=true)
  (h63:n+m<=maxLen) (hbytes:(n+m)*bytes<=140737488355328) (hbase:base<=w.heap.size)
  (h:∀v' w',w'.ownsRow base e size v' (n+m) (xs++news)->w.grownBy w' v.ownBlock->K (a.put o.dst v') w'):
  if Region.wanted o (yielded ops a.tmps)=true then Oper.wp P o a w K Q else E:=by
 have hw:Region.wanted o (yielded ops a.tmps)=true:=by simp[Region.wanted,hg]
 rw[if_pos hw];exact wp_append_own _ s x t ho base e i z size bytes ht hi hz hsize hby hzs hsz v n xs hs hown ad m c news hx hl hnews h1 h63 hbytes hbase fun v' w' h2 h3 _=>h v' w' h2 h3
def fY (L:List (ae×Value)):List Value:=L.flatMap fun x=>cX x.1 x.2
theorem J2 (L:List (ae×Value)) (x:ae×Value):fY (L++[x])=fY L++cX x.1 x.2:=by
 unfold fY;rw[Eb,DU,List.flatMap_nil,Bu]
theorem Ld (L:List (ae×Value)) (i:Nat) (h:i<L.length) (j:Nat) (hj:j<19):(fY L)[i*19+j]? =(cX L[i].1 L[i].2)[j]? :=by
 induction L generalizing i with
 |nil=>exact absurd h (Be _)
 | cons x L ih=>
  have hr:fY (x::L)=cX x.1 x.2++fY L:=by unfold fY;rw[DU]
  have hl:(cX x.1 x.2).length=19:=rfl;rw[hr]
  cases i with
  |zero=>rw[Ee,Ax,A3 (by omega)];rfl
  |succ i=>
   rw[Ba (by omega),hl,show(i+1)*19+j - 19=i*19+j by omega];exact ih i (by simpa using h)
def ke (w:World) (n:Nat) (l:List ae) (v:Value):Prop:=∃L:List (ae×Value),L.map (·.1)=l/\(∀x∈L,dG w n x.1.over x.2)/\w.ownsRow n 42 19 v L.length (fY L)
theorem rY {w w':World} {base size:Nat} {e:TypeId} {v:Value} {n:Nat} {xs:List Value} (h:w.ownsRow base e size v n xs) (hb:Below w.heap.size w w'):w'.ownsRow base e size v n xs:=by
 refine⟨h.1,?_⟩;rcases h.2 with hn|⟨g,cap,cur,hv,hbg,hg,rest⟩
 . exact .inl hn
 . exact .inr ⟨g,cap,cur,hv,hbg,(hb.block g (Ae.1 hg).1).trans hg,rest⟩
theorem QD {w:World} {bk:Nat} {K:List (aj×(Value×ae))} (hm:aB w bk bQ qT K) {d:aj} {x:Value×ae} (hx:aE K d=some x):(Instr.lookup 99 (.map (some bk)) (bQ d) false).run Tryz.prog w= .ok x.1 w:=by
 rw[hm.lookup iK Tryz.underlying99 (z:=gS u9 (.slice none 0 0)) (by kernel_rfl) d false,hx];rfl
theorem H6:∃i0 z by0,Tryz.prog.info? 42=some i0/\i0.zero=some z/\i0.size=19/\i0.bytes=by0/\z.cells.size=19/\by0<=1000:=by
 have h:((Tryz.prog.info? 42).bind fun i=>i.zero.map fun z=>(i.size,Nat.ble i.bytes 1000,z.cells.size))=some (19,true,19):=by kernel_rfl
 cases e:Tryz.prog.info? 42 with
 |none=>rw[e]at h;cases h
 | some i=>
  rw[e]at h
  cases ez:i.zero with
  |none=>simp[ez]at h
  |some z=>
   simp only[B0,ez,A8,AX,B5]at h;exact⟨i,z,_,rfl,ez,h.1,rfl,h.2.2,Al h.2.1⟩
theorem ZL (e:ae) (v:Value):Array.foldl (fun(cs:Array Value) (x:Value×Nat)=>cs.setIfInBounds x.2 x.1) #[.int .i64 0, .int .i64 0, .int .i64 0, .int .i64 0, .int .i64 0, .int .i64 0, .int .i64 0, .string ⟨#[]⟩, .string ⟨#[]⟩, .string ⟨#[]⟩, .string ⟨#[]⟩, .bool false, .bool false, .bool false, .bool false, .int .i64 0, .int .i64 0, .int .i64 0, .slice none 0 0] ((cX e v).toArray.zipIdx) 0 19=(cX e v).toArray:=by kernel_rfl
theorem Tryz.sorted {w:World} {n b bk ba bd bs bv:Nat} {G:bn} (h:cT w n b bk ba bd bs bv G) {l:List aj} {v:Value} (hd:cF w l v) (hl:l.length<=1000000) (f:aj->ae) (hf:∀d∈l,∃u,aE G.kept d=some (u,f d)) (hov:∀d∈l,(f d).over.length<=100000):
  Calls Tryz.prog 120 #[.pointer (some ⟨b,0,none⟩),v] w fun e w'=>∃v',e= .returned v'/\ke w' w.heap.size ((cS bS l).map f) v'/\Below w.heap.size w w':=by
 letI:Inhabited aL:=⟨⟨True,#[]⟩⟩
 have hsort:=HT hd hl;go_enter Tryz.func120,Tryz.ntmps120
 go_wp2_with (go_at_call 156;refine hsort.mono ?_;rintro e w1 ⟨v1,rfl,hd1,hn1,hb1⟩;obtain⟨sa,sn,sc,rfl⟩:=hd1.one)
 have hsn:sn=(cS bS l).length:=by
  rcases hd1 with⟨h0,a,c,hh⟩|⟨_,_,_,_,_,_,hh,_⟩
  . cases hh;rw[h0];rfl
  . cases hh;rfl
 subst hsn;go_loopw [5,11] (fun v i wr=>∃(k:Nat) (L:List (ae×Value)),k<=(cS bS l).length/\i= .int .i64 k/\L.map (·.1)=((cS bS l).take k).map f/\(∀x∈L,dG wr w1.heap.size x.1.over x.2)/\wr.ownsRow w1.heap.size 42 19 v L.length (fY L)/\Below w1.heap.size w1 wr)
  (fun _ i _=>(cS bS l).length - (intOf i).toNat)
 case atStart=>exact⟨0,[],Aw _,rfl,rfl,fun x hx=>absurd hx (by simp),World.ownsRow_nil _ _ _ _,Below.refl _ _⟩
 case round=>
  obtain⟨k,L,hk,rfl,hL,hLd,hrow,hbr1⟩:=hrel;have hbr:=hb1.trans (hbr1.mono hb1.size);have hsl:(cS bS l).length<=l.length:=by have:=sm (less:=bS) l [];simpa [cS]using this
  have hLl:L.length=k:=by
    have:=Ap List.length hL;simp only[Bf,Bi]at this;omega
  by_cases hlt:k<(cS bS l).length
  . obtain⟨d,hdk⟩:∃d,(cS bS l)[k]=d:=⟨_,rfl⟩;have hdl:d∈l:=by rw[<-oN (less:=bS),<-hdk];exact AJ hlt
    obtain⟨u,hu⟩:=hf d hdl;have hev0:iX w u (f d):=h.ev _ ((CT h.iz.nd).1 hu);rcases hd1 with⟨h0,_⟩|⟨ob,off,cap,arr,ty,fz,hh,hob,hcap,hlen,hcells⟩
    . rw[h0]at hlt;exact absurd hlt (Be _)
    . simp only[Value.slice.injEq]at hh;obtain⟨rfl, -,rfl⟩:=hh;obtain⟨x0,x1,x2⟩:=hcells k hlt;rw[hdk]at x0 x1 x2;have hobr:=(hbr1.block ob (Ae.1 hob).1).trans hob;have cell:∀{j:Nat} {u:Value},arr[j]? =some u->wr.cell? ⟨ob,j,none⟩=some u:=fun hx=>by
       unfold World.cell?;simp only[hobr,Bc,Ak,AB];exact hx
      have c0:=cell x0;have c1:=cell x1;have c2:=cell x2;obtain⟨W,hW⟩:∃W,wr.alloc (.cells #[.int .i64 d.dev, .int .i64 d.inc, .int .i64 d.seq] 35)=W:=⟨_,rfl⟩;have hbW:Below wr.heap.size wr W:=by rw[<-hW];exact(Below.refl _ _).alloc (Ai _) _
      have hrowW:W.drew.ownsRow w1.heap.size 42 19 u5 L.length (fY L):=by rw[<-hW];exact hrow.alloc _
      have d0:W.cell? ⟨wr.heap.size,0,none⟩=some (.int .i64 d.dev):=by rw[<-hW];simp
      have d1:W.cell? ⟨wr.heap.size,1,none⟩=some (.int .i64 d.inc):=by rw[<-hW];simp
      have d2:W.cell? ⟨wr.heap.size,2,none⟩=some (.int .i64 d.seq):=by rw[<-hW];simp
      have hB:Below w.heap.size w W.drew:=(hbr.trans (hbW.mono hbr.size)).drew;have hmb:=iC h.c0;have d3:W.cell? ⟨b,0,none⟩=some (.map (some bk)):=eF h.c0 (hB.block b hmb);have hmW:aB W.drew bk bQ qT G.kept:=h.iz.same (hB.block _ (Go.Gm.aB.lt h.iz));have hlk:=QD hmW hu;have hcl:=HU (hev0.cells (eu hB)) (hov d hdl);rw[show bQ d= .agg #[.int .i64 d.dev, .int .i64 d.inc, .int .i64 d.seq]from rfl]at hlk;obtain⟨i0,z0,by0,hi,hz0,hz1,hz2,hz3,hz4⟩:=H6;have hWs:wr.heap.size<W.heap.size:=by rw[<-hW];simp
      have hL1:L.length+1<=1000001:=by omega
      have hbyt:(L.length+1)*by0<=140737488355328:=Aq (E9 hL1 hz4) (by decide);have hmax:L.length+1<=maxLen:=by unfold maxLen;omega
      clear hmW hev0 hcells cell hob hobr x0 x1 x2;simp only[]at hlk;go_wp2;go_region_held3 (fun w'=>w'.cell? ⟨b,0,none⟩=some (.map (some bk))/\w'.cell? ⟨wr.heap.size,0,none⟩=some (.int .i64 d.dev)/\w'.cell? ⟨wr.heap.size,1,none⟩=some (.int .i64 d.inc)/\w'.cell? ⟨wr.heap.size,2,none⟩=some (.int .i64 d.seq)) (simp[*])
       (first
         |(go_at_call 70;(refine hcl.mono ?_;rintro e' w6 ⟨u',rfl,⟨v',hu',hd6⟩,hb6⟩;have e3:=eF d3 (hb6.block _ (by(have:=hbr.size;show b<W.heap.size;omega)));have e0:=eF d0 (hb6.block _ hWs);have e1:=eF d1 (hb6.block _ hWs);have e2:=eF d2 (hb6.block _ hWs);have hone:∀u∈cX (f d) v',u.oneCell'=true:=zE (by(obtain⟨_,_,_,hh⟩:=hd6.one;rw[hh];rfl));obtain⟨cs,hcs⟩:∃cs:Array Value,(cX (f d) v').toArray=cs:=⟨_,rfl⟩;have hcz:cs.size=19:=(by(rw[<-hcs];rfl));have hu2:u'= .agg cs:=(by(rw[hu',<-hcs];rfl));clear hu';subst hu2;have hfo:=ZL (f d) v';have hra:(w6.alloc (.cells (cX (f d) v').toArray 42)).rangeAt w6.heap.size 0 (cX (f d) v'):=ug w6 (f d) v';rw[hcs]at hfo hra;have hnl:(cX (f d) v').length=1*19:=rfl;obtain⟨nw,hnw⟩:∃nw,cX (f d) v'=nw:=⟨_,rfl⟩;rw[hnw]at hone hcs hra hnl;obtain⟨W7,hW7⟩:∃W7,w6.alloc (.cells cs 42)=W7:=⟨_,rfl⟩;rw[hW7]at hra;have hnc:∀j u,nw[j]? =some u->W7.cell? ((⟨w6.heap.size,0,none⟩:Addr).add j)=some u:=(fun j u hj=>by(rw[Addr.add_mid];exact hra j u hj));have s6:=hb6.size;have s7:W7.heap.size=w6.heap.size+1:=(by(subst hW7;exact Dl _));have hb7:Below w6.heap.size w6 W7:=(by(rw[<-hW7];exact(Below.refl _ _).alloc (Ai _) _));have g3:=eF e3 (hb7.block _ (iC e3));have g0:=eF e0 (hb7.block _ (iC e0));have g1:=eF e1 (hb7.block _ (iC e0));have g2:=eF e2 (hb7.block _ (iC e0));have hrow7:=rY (rY hrowW hb6) hb7))
         |((refine Rc rfl (.tmp 15) (.tmp 23) 22 rfl w1.heap.size 42 i0 z0 19 by0 Tryz.underlying22 hi hz0 hz1 hz2 hz3 (by decide) u5 L.length (fY L) rfl hrow7 ⟨w6.heap.size,0,none⟩ 1 1 nw rfl hnl hnc hone hmax hbyt (by(have:=hbr1.size;show w1.heap.size<=W7.heap.size;have h6:W.heap.size<=w6.heap.size:=s6;omega)) ?_;intro v8 w8 hrow8 hg8;have k3:=eF g3 (hg8.block _ (iC g3) (fun e=>by(have:=(hrow.lt b e.symm).1;have:=hb1.size;omega)));have hne8:some wr.heap.size≠u5.ownBlock:=(fun e=>by(have:=(hrow.lt _ e.symm).2;omega));have k0:=eF g0 (hg8.block _ (iC g0) hne8);have k1:=eF g1 (hg8.block _ (iC g0) hne8);have k2:=eF g2 (hg8.block _ (iC g0) hne8))))
      have hno:∀(b':Nat) (arr':Array Value),W7.heap[b']? =some (.cells arr' 35 (0,0))->w8.heap[b']? =W7.heap[b']? :=fun b' arr' hx=>by
       refine hg8.block b' (Ae.1 hx).1 fun e=>?_
       rcases ownsRow_ne_a hrow7 hx (fun cur e=>by have:=(Obj.cells.inj e).2.1;exact absurd this (by decide))with hh|hh
       . rw[hh]at e;cases e
       . exact hh e.symm
      have hn8:dG w8 w1.heap.size (f d).over v':=(hd6.mono (by have:=hbr1.size;show w1.heap.size<=W.heap.size;omega)).aX fun b' arr' _ hx=>by
       have h7:=hb7.block b' (Ae.1 hx).1;exact(hno b' arr' (h7.trans hx)).trans h7
      have ho8:∀x∈L,dG w8 w1.heap.size x.1.over x.2:=fun x hx=>(hLd x hx).aX fun b' arr' _ hb'=>by
       have hlt':=(Ae.1 hb').1;have h7:W7.heap[b']? =wr.heap[b']? :=((hb7.block b' (by have h6:W.heap.size<=w6.heap.size:=s6;omega)).trans (hb6.block b' (show b'<W.heap.size by omega))).trans (hbW.block b' hlt');exact(hno b' arr' (h7.trans hb')).trans h7
      have hB8:Below w1.heap.size w1 w8:=by
       have h1:=hbr1.size;have h6:W.heap.size<=w6.heap.size:=s6;exact(((hbr1.trans (hbW.mono h1)).drew.trans (hb6.mono (show w1.heap.size<=W.heap.size by omega))).trans (hb7.mono (by omega))).grown hg8 (by omega) (fun k e=>(hrow.lt k e).1)
      go_wp2;go_roundw
      case rel=>
       refine⟨k+1,L++[(f d,v')],hlt,by go_num,?_,?_,?_,hB8⟩
       . rw[A1,hL,Fb,Af hlt,hdk,A1];rfl
       . intro x hx;rcases A9.1 hx with hx|hx
         . exact ho8 x hx
         . rw[BQ.1 hx];exact hn8
       . rw[J2,A5];show w8.ownsRow w1.heap.size 42 19 v8 (L.length+1) (fY L++cX (f d) v')
         rw[hnw];exact hrow8
      case measure=>simp[intOf];omega
  . have hkl:k=(cS bS l).length:=by omega
    subst hkl;rw[Bp]at hL;go_wp2;go_ret;refine⟨_,rfl,⟨L,hL,fun x hx=>(hLd x hx).mono hb1.size,hrow.1,?_⟩,hbr⟩;rcases hrow.2 with hn|⟨g,cap,cur,hv,hbg,rest⟩
    . exact .inl hn
    . exact .inr ⟨g,cap,cur,hv,Aq hb1.size hbg,rest⟩
theorem ke.mono {w:World} {n m:Nat} {l:List ae} {v:Value} (h:ke w n l v) (hm:m<=n):ke w m l v:=by
 obtain⟨L,h1,h2,h3,h4⟩:=h;refine⟨L,h1,fun x hx=>(h2 x hx).mono hm,h3,?_⟩;rcases h4 with hn|⟨g,cap,cur,hv,hbg,rest⟩
 . exact .inl hn
 . exact .inr ⟨g,cap,cur,hv,Aq hm hbg,rest⟩
theorem QK {w:World} {n b bk ba bd bs bv:Nat} {G:bn} (h:cT w n b bk ba bd bs bv G) (k:aA) {j:Nat} {I:DL} (hj:aE G.alive k=some (j,I)) (f:aj->ae) (hI:I.length<=1000000)
  (hf:∀d∈I.map (·.1),∃u,aE G.kept d=some (u,f d)) (hov:∀d∈I.map (·.1),(f d).over.length<=100000):
  Calls Tryz.prog 78 #[.pointer (some ⟨b,0,none⟩),dx k] w fun e w'=>∃v',e= .returned v'/\ke w' w.heap.size ((cS bS (I.map (·.1))).map f) v'/\Below w.heap.size w w':=by
 letI:Inhabited aL:=⟨⟨True,#[]⟩⟩
 obtain⟨i0,hi,hz0,hz1,hz2⟩:=H5;have hmI:aB w j bQ cJ I:=h.mi _ ((CT h.ma.nd).1 hj);obtain⟨W,hW⟩:∃W,w.alloc (.cells #[.string ⟨k.name.toArray⟩, .string ⟨k.domain.toArray⟩, .string ⟨k.path.toArray⟩] 24)=W:=⟨_,rfl⟩;have hbW:Below w.heap.size w W:=by rw[<-hW];exact(Below.refl _ _).alloc (Ai _) _
 have sW:W.heap.size=w.heap.size+1:=by subst hW;exact Dl _
 have d0:W.cell? ⟨w.heap.size,0,none⟩=some (.string ⟨k.name.toArray⟩):=by rw[<-hW];simp
 have d1:W.cell? ⟨w.heap.size,1,none⟩=some (.string ⟨k.domain.toArray⟩):=by rw[<-hW];simp
 have d2:W.cell? ⟨w.heap.size,2,none⟩=some (.string ⟨k.path.toArray⟩):=by rw[<-hW];simp
 have hB:Below w.heap.size w W.drew:=hbW.drew;have d3:W.cell? ⟨b,1,none⟩=some (.map (some ba)):=eF h.c1 (hB.block b (iC h.c1));have hmW:aB W.drew ba dx oZ G.alive:=h.ma.same (hB.block _ (Go.Gm.aB.lt h.ma));have hlk:=jQ hmW k;rw[hj,show dx k= .agg #[.string ⟨k.name.toArray⟩, .string ⟨k.domain.toArray⟩, .string ⟨k.path.toArray⟩]from rfl,A8]at hlk;have hmIW:aB W.drew j bQ cJ I:=hmI.same (hB.block _ (Go.Gm.aB.lt hmI));obtain⟨W1,hrg,hit,hb1,hs1⟩:=hmIW.range Tryz.underlying101;rw[show W.drew.heap.size=W.heap.size from rfl]at hrg hit hs1;have hjl:=Go.Gm.aB.lt hmI;have hbl:=iC h.c1;have e3:=eF d3 (hb1.block b (show b<W.heap.size by omega));have e0:=eF d0 (hb1.block _ (show w.heap.size<W.heap.size by omega));have e1:=eF d1 (hb1.block _ (show w.heap.size<W.heap.size by omega));have e2:=eF d2 (hb1.block _ (show w.heap.size<W.heap.size by omega));have hB1:Below w.heap.size w W1:=hB.trans (hb1.mono (show w.heap.size<=W.heap.size by omega));rw[show dx k= .agg #[.string ⟨k.name.toArray⟩, .string ⟨k.domain.toArray⟩, .string ⟨k.path.toArray⟩]from rfl];clear hmW hmIW;go_enter Tryz.func78,Tryz.ntmps78
 go_wp2;go_region_held3 (fun w'=>w'.cell? ⟨b,1,none⟩=some (.map (some ba))/\w'.cell? ⟨w.heap.size,0,none⟩=some (.string ⟨k.name.toArray⟩)/\w'.cell? ⟨w.heap.size,1,none⟩=some (.string ⟨k.domain.toArray⟩)/\w'.cell? ⟨w.heap.size,2,none⟩=some (.string ⟨k.path.toArray⟩)) (simp[*]) (fail)
 rw[sW]at hit hs1;clear hrg e0 e1 e2 e3 d0 d1 d2 d3 hlk;go_wp2;go_loopw [5] (fun v wr=>∃(ss left:DL),cI wr (w.heap.size+1) j bQ cJ I ss left/\ss.length+left.length=I.length/\wr.ownsRow W1.heap.size 35 3 v ss.length (fO (ss.map (·.1)))/\Below w.heap.size w wr/\W1.heap.size<=wr.heap.size)
  (fun _ wr=>wr.rangeLeft j (w.heap.size+1))
 case atStart=>exact⟨[],I,hit,by simp,World.ownsRow_nil _ _ _ _,hB1,Ai _⟩
 case round=>
  obtain⟨ss,left,hrg,hcs,hrow,hbr,hbig⟩:=hrel;go_wp2_with (first
    |(at_next;refine Is _ rfl _ rfl (w.heap.size+1) j rfl hrg ?_ ?_)
    |go_in)
  . intro hl0 hperm;have hpk:(ss.map (·.1)).Perm (I.map (·.1)):=hperm.map _;have hsl:(ss.map (·.1)).length<=1000000:=by rw[hpk.length_eq,Bf];exact hI
    have hrow':wr.ownsRow W1.heap.size 35 3 u5 (ss.map (·.1)).length (fO (ss.map (·.1))):=by rw[Bf];exact hrow
    have hcall:=Tryz.sorted (h.below hbr) (U5 hrow') hsl f (fun d hd=>hf d (hpk.mem_iff.1 hd)) (fun d hd=>hov d (hpk.mem_iff.1 hd));go_wp2_with (go_at_call 120;refine hcall.mono ?_;rintro e w2 ⟨v2,rfl,hev,hb2⟩)
    go_ret;have heq:cS bS (ss.map (·.1))=cS bS (I.map (·.1)):=uF (wj _) fun x=>by rw[oN];exact hpk.mem_iff
    rw[heq]at hev;exact⟨_,rfl,hev.mono hbr.size,hbr.trans (hb2.mono hbr.size)⟩
  . intro d nn left' w2 hrg2 hlt hg2 hs2 hen;rw[show bQ d= .agg #[.int .i64 d.dev, .int .i64 d.inc, .int .i64 d.seq]from rfl]at hen⊢;have hr0:=hrg.isWalk;have hrow2:w2.ownsRow W1.heap.size 35 3 u5 ss.length (fO (ss.map (·.1))):=hrow.kept (row:=some (w.heap.size+1)) ⟨hg2.os,hg2.tape,hg2.output,hg2.size,fun i hi hne=>hg2.block i hi fun e=>hne (by rw[e])⟩ (by
     obtain⟨o,ho,hw⟩:=hr0;exact ownsRow_ne_a hrow ho (fun cur e=>by rw[e]at hw;cases hw))
    have hb2:Below w.heap.size w w2:=hbr.trans ⟨hg2.os,hg2.tape,hg2.output,hg2.size,fun i hi=>hg2.block i (AY hi hbr.size) (by omega)⟩;obtain⟨X,hX⟩:∃X,(w2.alloc (.cells #[.int .i64 d.dev, .int .i64 d.inc, .int .i64 d.seq] 35)).alloc (.cells #[.int .i64 d.dev, .int .i64 d.inc, .int .i64 d.seq] 35)=X:=⟨_,rfl⟩;have hrow3:X.ownsRow W1.heap.size 35 3 u5 ss.length (fO (ss.map (·.1))):=by rw[<-hX];exact(hrow2.alloc _).alloc _
    have hk3:KeepsWalks w2 X:=by rw[<-hX];exact(KeepsWalks.alloc _ _).trans (KeepsWalks.alloc _ _)
    have hb3:Below w.heap.size w X:=by rw[<-hX];exact(hb2.alloc hb2.size _).alloc (by have:=hb2.size;simp;omega) _
    have hs3:X.heap.size=wr.heap.size+2:=by rw[<-hX];simp;omega
    have hnc:∀i u,([.int .i64 d.dev, .int .i64 d.inc, .int .i64 d.seq]:List Value)[i]? =some u->X.cell? ((⟨wr.heap.size+1,0,none⟩:Addr).add i)=some u:=fun i u hi=>by
     rw[Addr.add_lit,<-hX,show wr.heap.size+1=(w2.alloc (.cells #[.int .i64 d.dev, .int .i64 d.inc, .int .i64 d.seq] 35)).heap.size from by rw[<-hs2];exact(Dl _).symm];match i with
     |0=>cases hi;simp
     |1=>cases hi;simp
     |2=>cases hi;simp
     |_+3=>cases hi
    have hone:∀u∈([.int .i64 d.dev, .int .i64 d.inc, .int .i64 d.seq]:List Value),u.oneCell'=true:=by simp[Value.oneCell']
    have hlen:ss.length+1<=I.length:=by omega
    have hmax:ss.length+1<=maxLen:=by unfold maxLen;omega
    go_wp2_with (at_builtin;go_loud (refine wpList_append_own _ rfl _ _ 40 rfl W1.heap.size 35 i0 _ 3 24 Tryz.underlying40 hi hz0 hz1 hz2 rfl (by decide) _ _ _ rfl hrow3 ⟨wr.heap.size+1,0,none⟩ 1 1 [.int .i64 d.dev, .int .i64 d.inc, .int .i64 d.seq] rfl rfl hnc hone hmax (by omega) (by omega) ?_;intro v3 w3 hown hg3 hnil))
    have hrg3:=(hrg2.jv hk3).jv (KeepsWalks.of_grownBy hg3 (ownsRow_not_walk_a hrow3));have hs4:=hg3.size;go_roundw
    case rel=>exact⟨ss++[(d,nn)],left',hrg3,by simp;omega,by rw[A1,AR,Eg,Ii,A5];exact hown,hb3.grown hg3 hb3.size (fun k e=>Aq hB1.size (hrow3.lt k e).1),by omega⟩
    case measure=>rw[hrg3.left_eq,hrg.left_eq];omega
theorem QL {w:World} {n b bk ba bd bs bv:Nat} {G:bn} (h:cT w n b bk ba bd bs bv G) (k:aA) (hj:aE G.alive k=none):
  Calls Tryz.prog 78 #[.pointer (some ⟨b,0,none⟩),dx k] w fun e w'=>∃v',e= .returned v'/\ke w' w.heap.size [] v'/\Below w.heap.size w w':=by
 letI:Inhabited aL:=⟨⟨True,#[]⟩⟩
 obtain⟨W,hW⟩:∃W,w.alloc (.cells #[.string ⟨k.name.toArray⟩, .string ⟨k.domain.toArray⟩, .string ⟨k.path.toArray⟩] 24)=W:=⟨_,rfl⟩;have hbW:Below w.heap.size w W:=by rw[<-hW];exact(Below.refl _ _).alloc (Ai _) _
 have sW:W.heap.size=w.heap.size+1:=by subst hW;exact Dl _
 have d0:W.cell? ⟨w.heap.size,0,none⟩=some (.string ⟨k.name.toArray⟩):=by rw[<-hW];simp
 have d1:W.cell? ⟨w.heap.size,1,none⟩=some (.string ⟨k.domain.toArray⟩):=by rw[<-hW];simp
 have d2:W.cell? ⟨w.heap.size,2,none⟩=some (.string ⟨k.path.toArray⟩):=by rw[<-hW];simp
 have hB:Below w.heap.size w W.drew:=hbW.drew;have d3:W.cell? ⟨b,1,none⟩=some (.map (some ba)):=eF h.c1 (hB.block b (iC h.c1));have hmW:aB W.drew ba dx oZ G.alive:=h.ma.same (hB.block _ (Go.Gm.aB.lt h.ma));have hlk:=jQ hmW k;rw[hj,show dx k= .agg #[.string ⟨k.name.toArray⟩, .string ⟨k.domain.toArray⟩, .string ⟨k.path.toArray⟩]from rfl,Da]at hlk;have hrg:=run_range_nilMap (P:=Tryz.prog) W.drew 101 _ _ Tryz.underlying101;have hbl:=iC h.c1;obtain⟨W1,hW1⟩:∃W1,W.drew.alloc (.mapIter none 0 #[] 0)=W1:=⟨_,rfl⟩;have hb1:Below W.heap.size W.drew W1:=by rw[<-hW1];exact(Below.refl W.drew.heap.size W.drew).alloc (Ai _) _
 have hnx:∀ty,(Instr.next (.pointer (some ⟨w.heap.size+1,0,none⟩)) false ty).run Tryz.prog W1= .ok (.tuple #[.bool false]) W1:=fun ty=>by
  have:=run_next_nilMap (P:=Tryz.prog) W.drew ty 0 0 #[];rw[show W.drew.heap.size=w.heap.size+1 from sW,hW1]at this;exact this
 rw[hW1]at hrg;have e3:=eF d3 (hb1.block b (show b<W.heap.size by omega));have e0:=eF d0 (hb1.block _ (show w.heap.size<W.heap.size by omega));have e1:=eF d1 (hb1.block _ (show w.heap.size<W.heap.size by omega));have e2:=eF d2 (hb1.block _ (show w.heap.size<W.heap.size by omega));have hB1:Below w.heap.size w W1:=hB.trans (hb1.mono (show w.heap.size<=W.heap.size by omega));have hcall:=Tryz.sorted (h.below hB1) (l:=[]) (v:= .slice none 0 0) (.inl ⟨rfl,_,_,rfl⟩) (Aw _) (fun _=>default) (fun d hd=>by cases hd) (fun d hd=>by cases hd);rw[show dx k= .agg #[.string ⟨k.name.toArray⟩, .string ⟨k.domain.toArray⟩, .string ⟨k.path.toArray⟩]from rfl];clear hmW;go_enter Tryz.func78,Tryz.ntmps78
 go_wp2;go_region_held3 (fun w'=>w'.cell? ⟨b,1,none⟩=some (.map (some ba))/\w'.cell? ⟨w.heap.size,0,none⟩=some (.string ⟨k.name.toArray⟩)/\w'.cell? ⟨w.heap.size,1,none⟩=some (.string ⟨k.domain.toArray⟩)/\w'.cell? ⟨w.heap.size,2,none⟩=some (.string ⟨k.path.toArray⟩)) (simp[*]) (fail)
 clear hrg e0 e1 e2 e3 d0 d1 d2 d3 hlk;go_wp2;go_loopw [5] (fun v wr=>v= .slice none 0 0/\wr=W1) (fun _ _=>0)
 case atStart=>exact⟨rfl,rfl⟩
 case round=>
  obtain⟨rfl,rfl⟩:=hrel;go_wp2_with (go_at_call 120;go_loud (refine hcall.mono ?_;rintro e w2 ⟨v2,rfl,hev,hb2⟩))
  go_ret;exact⟨_,rfl,hev.mono hB1.size,hB1.trans (hb2.mono hB1.size)⟩
theorem Cq {α:Type} [DecidableEq α]:∀{l m:List α},l.Nodup->(∀x∈l,x∈m)->l.length<=m.length
 |[],_,_,_=>Aw _
 |x::l,m,hn,hs=>by
  have hx:=hs x An;obtain⟨hxl,hn'⟩:=BW.1 hn;have:=Cq (l:=l) (m:=m.erase x) hn' fun y hy=>(List.mem_erase_of_ne (fun e=>hxl (by rw[<-e];exact hy))).2 (hs y (Ao _ hy))
  rw[List.length_erase_of_mem hx]at this;have:=List.length_pos_of_mem hx;rw[AA];omega
theorem Wp [Inhabited aL] {G:bn} {m:aJ} (g:cq G m) {k:aA} {x:Nat×DL} (hx:aE G.alive k=some x) (hn:(x.2.map (·.1)).Nodup):x.2.length<=m.kept.length/\ ∀d∈x.2.map (·.1),∃e∈aR m k,e.dot=d:=by
 have hm:∀d∈x.2.map (·.1),∃e∈aR m k,e.dot=d:=fun d hd=>(g.al k d).1 ⟨x,hx,by
  cases e:aE x.2 d with
  |none=>exact absurd hd (bK.1 e)
  |some _=>rfl⟩
 refine⟨?_,hm⟩;have h1:(x.2.map (·.1)).length<=((aR m k).map (·.dot)).length:=Cq hn fun d hd=>by
  obtain⟨e,he,hed⟩:=hm d hd;exact Au.2 ⟨e,he,hed⟩
 rw[Bf,Bf]at h1;exact Aq h1 (Aq (AL _ _) (AL _ _))
theorem Tryz.key {w:World} {n b bk ba bd bs bv:Nat} {G:bn} {m:aJ} (h:cT w n b bk ba bd bs bv G) (g:cq G m) (ok:gL m) (hov:∀e∈m.kept,e.over.length<=100000) (k:aA):
  Calls Tryz.prog 78 #[.pointer (some ⟨b,0,none⟩),dx k] w fun e w'=>∃v',e= .returned v'/\ke w' w.heap.size (aR m k) v'/\Below w.heap.size w w':=by
 letI:Inhabited aL:=⟨⟨True,#[]⟩⟩
 cases hj:aE G.alive k with
 | none=>
  have he:aR m k=[]:=by
   by_cases h0:aR m k=[]
   . exact h0
   . have:=(um g k).2 h0;rw[hj]at this;cases this
  rw[he];exact QL h k hj
 | some x=>
  obtain⟨j,I⟩:=x;have hnd:(I.map (·.1)).Nodup:=(h.mi _ ((CT h.ma.nd).1 hj)).nd;obtain⟨hlen,hmem⟩:=Wp g hj hnd;have hfe:∀e∈aR m k,(((aE G.kept e.dot).map (·.2)).getD gU)=e:=fun e he=>by
   obtain⟨v,hv⟩:=Lk g he;rw[hv];rfl
  have hdots:=Wq g (k:=k) (l:=I.map (·.1)) fun d=>by
   rw[g.al];exact⟨fun hd=>hmem d hd,fun⟨e,he,hed⟩=>by
     obtain⟨x,hx,hs⟩:=(g.al k d).2 ⟨e,he,hed⟩;rw[hj]at hx;cases hx;by_cases hd:d∈I.map (·.1)
     . exact hd
     . rw[bK.2 hd]at hs;cases hs⟩
  have hk:=QK h k hj (fun d=>((aE G.kept d).map (·.2)).getD gU) (by have:=ok.kept;have h2:I.length<=m.kept.length:=hlen;omega) (fun d hd=>by
     obtain⟨e,he,rfl⟩:=hmem d hd;obtain⟨v,hv⟩:=Lk g he;exact⟨v,by rw[hv];rfl⟩) (fun d hd=>by
     obtain⟨e,he,rfl⟩:=hmem d hd;show(((aE G.kept e.dot).map (·.2)).getD gU).over.length<=100000
     rw[hfe e he];exact hov e (Ar.1 (Ar.1 he).1).1)
  rw[hdots,BJ]at hk;rw[show(aR m k).map ((fun d=>((aE G.kept d).map (·.2)).getD gU) ∘ (·.dot))=aR m k by
   conv=>rhs;rw[<-FD (aR m k)]
   exact Dn fun e he=>hfe e he]at hk
  exact hk
end Go.Proofs
namespace Go.Proofs
open Go Go.Am Go.RowKit Go.Sy Go.Gm
theorem cT.p7 {w w':World} {n b bk ba bd bs bv:Nat} {G:bn} (h:cT w n b bk ba bd bs bv G) (hb:eY (· =bv) w w') {V:List ((Int×Int)×Int)} (hm:aB w' bv eS cJ V):cT w' n b bk ba bd bs bv {G with vec:=V}:=by
 obtain⟨n1,n2,n3,n4,n5,n6⟩:=h.ne;have hc:jh w w':=hb.cells fun k hk=>by subst hk;exact aB.isMap h.mv
 have cc:∀{b o:Nat} {v:Value},w.cell? ⟨b,o,none⟩=some v->w'.cell? ⟨b,o,none⟩=some v:=fun hv=>eF hv (hb.block _ (iC hv) fun e=>vV hv (by rw[e];exact aB.isMap h.mv))
 exact⟨cc h.c0,cc h.c1,cc h.c2,cc h.c3,cc h.cv,h.iz.same (hb.block _ (aB.lt h.iz) n3),h.ma.same (hb.block _ (aB.lt h.ma) n5),h.md.same (hb.block _ (aB.lt h.md) n6),hm,fun x hx=>(h.mi x hx).same (hb.block _ (aB.lt (h.mi x hx)) (h.rS hx).2.2.2),h.nd,h.low,fun x hx=>(h.ev x hx).cells hc⟩
theorem yS {w:World} {bs bv:Nat} {L:List ((Int×Int)×Int)} (hs:w.cell? ⟨bs,0,none⟩=some (.map (some bv))) (hm:aB w bv eS cJ L) (a i n:Int) (hd:fk ⟨a,i,n⟩=true):
    Calls Tryz.prog 66 #[.pointer (some ⟨bs,0,none⟩), .agg #[.int .i64 a, .int .i64 i, .int .i64 n]] w fun e w'=>e= .returned (.bool (decide (n<=oS L a i)))/\Below w.heap.size w w':=by
  have hc:=fun w=>Hq a i n w
  rw[hd]at hc;have hbv:bv<w.heap.size:=aB.lt hm;have hbs:bs<w.heap.size:=iC hs;obtain⟨W,hW⟩:∃W,w.alloc (.cells #[.int .i64 a, .int .i64 i, .int .i64 n] 35)=W:=⟨_,rfl⟩;have hq:Below w.heap.size w W.drew:=by rw[<-hW];exact((Below.refl w.heap.size w).alloc (Ai _) _).drew
  have hsz:W.drew.heap.size=w.heap.size+1:=by rw[<-hW];simp
  have hn0:W.drew.cell? ⟨w.heap.size,0,none⟩=some (.int .i64 a):=by rw[<-hW];simp
  have hn1:W.drew.cell? ⟨w.heap.size,1,none⟩=some (.int .i64 i):=by rw[<-hW];simp
  have hn2:W.drew.cell? ⟨w.heap.size,2,none⟩=some (.int .i64 n):=by rw[<-hW];simp
  have hge:∀{x:World} (_:x.cell? ⟨bs,0,none⟩=some (.map (some bv))) (_:aB x bv eS cJ L),Calls Tryz.prog 67 #[.pointer (some ⟨bs,0,none⟩), .agg #[.int .i64 a, .int .i64 i]] x fun e w'=>e= .returned (.int .i64 (oS L a i))/\Below x.heap.size x w':=fun h1 h2=>lY h1 h2 a i
  go_enter Tryz.func66,Tryz.ntmps66
  go_wp2_with fail
  go_region_with (first
   |(go_at_call 107;refine(hc _).mono ?_;rintro e w1 ⟨rfl,hb⟩;have hq1:=hq.trans (hb.mono (by rw[hsz];omega));have hs1:w1.cell? ⟨bs,0,none⟩=some (.map (some bv)):=(hq1.cell hbs).trans hs;have hm1:aB w1 bv eS cJ L:=hm.same (hq1.block bv hbv);have hz1:=hb.size;have hb0:=(hb.cell (p:=⟨w.heap.size,0,none⟩) (by rw[hsz];show w.heap.size<_;omega)).trans hn0;have hb1:=(hb.cell (p:=⟨w.heap.size,1,none⟩) (by rw[hsz];show w.heap.size<_;omega)).trans hn1;have hb2:=(hb.cell (p:=⟨w.heap.size,2,none⟩) (by rw[hsz];show w.heap.size<_;omega)).trans hn2)
   |(go_at_call 67;refine(hge (by assumption) (by assumption)).mono ?_;rintro e w2 ⟨rfl,hc2⟩;have hq2:=hq1.trans (hc2.mono (by rw[hsz]at hz1;omega));have hc0:=(hc2.cell (p:=⟨w.heap.size,2,none⟩) (by rw[hsz]at hz1;show w.heap.size<_;omega)).trans hb2))
  all_goals (go_wp2)
  all_goals (go_ret)
  all_goals (exact⟨rfl,hq2⟩)
theorem ft {W:World} {bx m:Nat} {e:ae} {v:Value} {cs:Array Value} (r:W.rangeAt bx 0 (cX e v)) (hcs:Hid ((cX e v).toArray=cs)) (hm:Hid (m=19)):
  W.cell? ⟨bx,0,none⟩=some (.int .i64 e.dot.dev)/\W.cell? ⟨bx,1,none⟩=some (.int .i64 e.dot.inc)/\W.cell? ⟨bx,2,none⟩=some (.int .i64 e.dot.seq)/\W.cell? ⟨bx,6,none⟩=some (.int .i64 e.kind)/\W.cell? ⟨bx,18,none⟩=some v/\
   (loadCellsFrom ⟨bx,0,none⟩ 0 m #[]).run Tryz.prog W= .ok cs W:=by
 have h1:=G9 r;rw[show(cX e v).toArray=cs from hcs,<-(show m=19 from hm)]at h1;exact⟨r 0 _ rfl,r 1 _ rfl,r 2 _ rfl,r 6 _ rfl,r 18 _ rfl,h1⟩
theorem OP {w:World} {n b bk ba bd bs bv:Nat} {G:bn} {m:aJ} {e:ae} {u:Value} (h:cT w n b bk ba bd bs bv G) (hg:cq G m) (hu:iX w u e) (hse:lr e) (hl:G.kept.length<=100000) (hseq:∀a i,0<=getM m.ctx a i/\getM m.ctx a i<=4294967296)
   (hno:(ey m e).2.1=false):
   Calls Tryz.prog 15 #[.pointer (some ⟨b,0,none⟩),u] w fun e' w'=>e'= .returned (.tuple #[.bool false, .int .i64 (ey m e).2.2])/\(ey m e).1=m/\Below w.heap.size w w':=by
 obtain⟨v,hu,hd⟩:=hu;obtain⟨cs,hcs⟩:∃cs:Array Value,Hid ((cX e v).toArray=cs):=⟨_,rfl⟩;have hu':u= .agg cs:=by rw[hu,<-(show(cX e v).toArray=cs from hcs)];rfl
 have hev0:iX w (.agg cs) e:=⟨v,by rw[<-hu',hu],hd⟩;clear hu;subst hu';obtain⟨SZ,mm,hSZ,hsz,hm⟩:=uv;obtain⟨W,hW⟩:∃W,w.alloc (.cells cs 42)=W:=⟨_,rfl⟩;have hb:Below w.heap.size w W:=by rw[<-hW];exact(Below.refl w.heap.size w).alloc (Ai _) _
 have hs:W.heap.size=w.heap.size+1:=by rw[<-hW];simp
 have hr:W.rangeAt w.heap.size 0 (cX e v):=by rw[<-hW,<-(show(cX e v).toArray=cs from hcs)];exact ug w e v
 have h0 :=h.below hb;have hright:=HV (hev0.cells (eu hb)) hse;obtain⟨k0,k1,k2,k6,k18,kl⟩:=ft hr hcs hm;have hA:(∃z,ey m e=(m,false,z)):=by
   unfold ey at hno⊢;split
   . exact⟨_,rfl⟩
   . rw[if_neg ‹_›]at hno;split
     . exact⟨_,rfl⟩
     . rw[if_neg ‹_›]at hno;split
       . exact⟨_,rfl⟩
       . rw[if_neg ‹_›]at hno;split
         . exact⟨_,rfl⟩
         . rw[if_neg ‹_›]at hno;cases hno
 obtain⟨z,hA⟩:=hA;by_cases q1:gm e=false
 . have hz:z=1:=by have:ey m e=(m,false,1):=by{unfold ey;rw[if_pos q1]};rw[this]at hA;cases hA;rfl
   rw[q1]at hright;rw[hA,hz];go_enter Tryz.func15,Tryz.ntmps15
   go_wp2_with (go_at_call 65;refine hright.mono ?_;rintro e' w1 ⟨rfl,hb1⟩;have hbf:=hb.trans (hb1.mono (by omega)))
   refine bodyPost_ret (results_tmp2 rfl _ _ _) rfl ?_;exact⟨rfl,trivial,hbf⟩
 have q1':gm e=true:=by simpa using q1
 rw[q1']at hright;letI:Inhabited aL:=⟨⟨True,#[]⟩⟩
 have hdot:fk e.dot=true:=wT q1';have hhas0:decide (e.dot.seq<=oS G.vec e.dot.dev e.dot.inc)=eI m.ctx e.dot:=by
   unfold eI;rw[hdot,Bj,fc,hg.vec]
 by_cases q2:eI m.ctx e.dot=true
 . have hz:z=0:=by have:ey m e=(m,false,0):=by{unfold ey;rw[if_neg q1,if_pos q2]};rw[this]at hA;cases hA;rfl
   have hhas:=hhas0.trans q2;rw[hA,hz];clear q1 q1' hhas0 q2 hA hno hev0 h hse;go_enter Tryz.func15,Tryz.ntmps15
   go_wp2_with (go_at_call 65;refine hright.mono ?_;rintro e' w1 ⟨rfl,hb1⟩;have hbf1:=hb.trans (hb1.mono (by omega));have h1:=h0.below hb1;have r1:=gh (eu hb1) hr;obtain⟨a0,a1,a2,a6,a18,al⟩:=ft r1 hcs hm;have a3:=h1.c3;have h1d:=h1.below (Below.refl w1.heap.size w1).drew;have hv1:=yS h1d.cv h1d.mv e.dot.dev e.dot.inc e.dot.seq hdot;rw[hhas]at hv1;clear k0 k1 k2 k6 k18 kl h1d)
   go_region_held3 (fun w'=>w'.cell? ⟨b,3,none⟩=some (.pointer (some ⟨bs,0,none⟩))/\w'.cell? ⟨w.heap.size,0,none⟩=some (.int .i64 e.dot.dev)/\w'.cell? ⟨w.heap.size,1,none⟩=some (.int .i64 e.dot.inc)/\w'.cell? ⟨w.heap.size,2,none⟩=some (.int .i64 e.dot.seq)) (simp[*]) (first|(go_at_call 66;refine hv1.mono ?_;rintro e' w2 ⟨rfl,hb2⟩;have hbf2:=hbf1.drew.trans (hb2.mono (by have:=hbf1.size;show _<=w1.heap.size;omega));have h2:=(h1.below (Below.refl w1.heap.size w1).drew).below hb2;have r2:=gh (eu hb2) (gh (eu (Below.refl w1.heap.size w1).drew) r1);obtain⟨b0,b1,b2,b6,b18,bl⟩:=ft r2 hcs hm;have b3:=h2.c3;have h2d:=h2.below (Below.refl w2.heap.size w2).drew;have hv2:=lY h2d.cv h2d.mv e.dot.dev e.dot.inc;rw[show(aE G.vec (e.dot.dev,e.dot.inc)).getD 0=getM m.ctx e.dot.dev e.dot.inc from hg.vec _ _]at hv2;clear a0 a1 a2 a6 a18 al a3 hv1 h2d))
   all_goals go_wp2
   all_goals refine bodyPost_ret (results_tmp2 rfl _ _ _) rfl ?_
   all_goals exact⟨rfl,trivial,hbf2⟩
 have hhas:=hhas0.trans (by simpa using q2);by_cases q3:getM m.ctx e.dot.dev e.dot.inc+1≠e.dot.seq
 . have hz:z=6:=by have:ey m e=(m,false,6):=by{unfold ey;rw[if_neg q1,if_neg q2,if_pos q3]};rw[this]at hA;cases hA;rfl
   have hwr:IntKind.i64.wrap (getM m.ctx e.dot.dev e.dot.inc+1)=getM m.ctx e.dot.dev e.dot.inc+1:=IntWalk.i64_in _ (by have:=hseq e.dot.dev e.dot.inc;omega);have hne:(e.dot.seq !=getM m.ctx e.dot.dev e.dot.inc+1)=true:=by simpa using fun h:e.dot.seq=_=>q3 h.symm
   rw[hA,hz];clear q1 q1' hhas0 q2 hA hno hev0 h hse q3;go_enter Tryz.func15,Tryz.ntmps15
   go_wp2_with (go_at_call 65;refine hright.mono ?_;rintro e' w1 ⟨rfl,hb1⟩;have hbf1:=hb.trans (hb1.mono (by omega));have h1:=h0.below hb1;have r1:=gh (eu hb1) hr;obtain⟨a0,a1,a2,a6,a18,al⟩:=ft r1 hcs hm;have a3:=h1.c3;have h1d:=h1.below (Below.refl w1.heap.size w1).drew;have hv1:=yS h1d.cv h1d.mv e.dot.dev e.dot.inc e.dot.seq hdot;rw[hhas]at hv1;clear k0 k1 k2 k6 k18 kl h1d)
   go_region_held3 (fun w'=>w'.cell? ⟨b,3,none⟩=some (.pointer (some ⟨bs,0,none⟩))/\w'.cell? ⟨w.heap.size,0,none⟩=some (.int .i64 e.dot.dev)/\w'.cell? ⟨w.heap.size,1,none⟩=some (.int .i64 e.dot.inc)/\w'.cell? ⟨w.heap.size,2,none⟩=some (.int .i64 e.dot.seq)) (simp[*]) (first|(go_at_call 66;refine hv1.mono ?_;rintro e' w2 ⟨rfl,hb2⟩;have hbf2:=hbf1.drew.trans (hb2.mono (by have:=hbf1.size;show _<=w1.heap.size;omega));have h2:=(h1.below (Below.refl w1.heap.size w1).drew).below hb2;have r2:=gh (eu hb2) (gh (eu (Below.refl w1.heap.size w1).drew) r1);obtain⟨b0,b1,b2,b6,b18,bl⟩:=ft r2 hcs hm;have b3:=h2.c3;have h2d:=h2.below (Below.refl w2.heap.size w2).drew;have hv2:=lY h2d.cv h2d.mv e.dot.dev e.dot.inc;rw[show(aE G.vec (e.dot.dev,e.dot.inc)).getD 0=getM m.ctx e.dot.dev e.dot.inc from hg.vec _ _]at hv2;clear a0 a1 a2 a6 a18 al a3 hv1 h2d))
   all_goals go_wp2_with fail
   all_goals go_region_held3 (fun w'=>w'.cell? ⟨b,3,none⟩=some (.pointer (some ⟨bs,0,none⟩))/\w'.cell? ⟨w.heap.size,0,none⟩=some (.int .i64 e.dot.dev)/\w'.cell? ⟨w.heap.size,1,none⟩=some (.int .i64 e.dot.inc)/\w'.cell? ⟨w.heap.size,2,none⟩=some (.int .i64 e.dot.seq)) (simp[*]) (first|(go_at_call 67;refine hv2.mono ?_;rintro e' w3 ⟨rfl,hb3⟩;have hbf3:=hbf2.drew.trans (hb3.mono (by have:=hbf2.size;show _<=w2.heap.size;omega));have h3:=(h2.below (Below.refl w2.heap.size w2).drew).below hb3;have hv3:=Tryz.room h3 hl;  have r3:=gh (eu hb3) (gh (eu (Below.refl w2.heap.size w2).drew) r2);obtain⟨c0,c1,c2,c6,c18,cl⟩:=ft r3 hcs hm;have c3:=h3.c3;clear b0 b1 b2 b6 b18 bl b3 hv2))
   all_goals go_wp2
   all_goals refine bodyPost_ret (results_tmp2 rfl _ _ _) rfl ?_
   all_goals exact⟨rfl,trivial,hbf3⟩
 have q3':getM m.ctx e.dot.dev e.dot.inc+1=e.dot.seq:=by simpa using q3
 have q4:2048<=m.kept.length:=by
   apply Bk;intro q4;unfold ey at hno;rw[if_neg q1,if_neg q2,if_neg q3,if_neg q4]at hno
   cases hno
 have hz:z=9:=by have:ey m e=(m,false,9):=by{unfold ey;rw[if_neg q1,if_neg q2,if_neg q3,if_pos q4]};rw[this]at hA;cases hA;rfl
 have hwr:IntKind.i64.wrap (getM m.ctx e.dot.dev e.dot.inc+1)=getM m.ctx e.dot.dev e.dot.inc+1:=IntWalk.i64_in _ (by have:=hseq e.dot.dev e.dot.inc;omega);have hne:(e.dot.seq !=getM m.ctx e.dot.dev e.dot.inc+1)=false:=by rw[q3'];simp
 have hroom:decide (1<=2048 - (G.kept.length:Int))=false:=Br (by rw[hg.len];omega);rw[hA,hz];clear q1 q1' hhas0 q2 hA hno hev0 h hse q3 q3' q4;go_enter Tryz.func15,Tryz.ntmps15
 go_wp2_with (go_at_call 65;refine hright.mono ?_;rintro e' w1 ⟨rfl,hb1⟩;have hbf1:=hb.trans (hb1.mono (by omega));have h1:=h0.below hb1;have r1:=gh (eu hb1) hr;obtain⟨a0,a1,a2,a6,a18,al⟩:=ft r1 hcs hm;have a3:=h1.c3;have h1d:=h1.below (Below.refl w1.heap.size w1).drew;have hv1:=yS h1d.cv h1d.mv e.dot.dev e.dot.inc e.dot.seq hdot;rw[hhas]at hv1;clear k0 k1 k2 k6 k18 kl h1d)
 go_region_held3 (fun w'=>w'.cell? ⟨b,3,none⟩=some (.pointer (some ⟨bs,0,none⟩))/\w'.cell? ⟨w.heap.size,0,none⟩=some (.int .i64 e.dot.dev)/\w'.cell? ⟨w.heap.size,1,none⟩=some (.int .i64 e.dot.inc)/\w'.cell? ⟨w.heap.size,2,none⟩=some (.int .i64 e.dot.seq)) (simp[*]) (first|(go_at_call 66;refine hv1.mono ?_;rintro e' w2 ⟨rfl,hb2⟩;have hbf2:=hbf1.drew.trans (hb2.mono (by have:=hbf1.size;show _<=w1.heap.size;omega));have h2:=(h1.below (Below.refl w1.heap.size w1).drew).below hb2;have r2:=gh (eu hb2) (gh (eu (Below.refl w1.heap.size w1).drew) r1);obtain⟨b0,b1,b2,b6,b18,bl⟩:=ft r2 hcs hm;have b3:=h2.c3;have h2d:=h2.below (Below.refl w2.heap.size w2).drew;have hv2:=lY h2d.cv h2d.mv e.dot.dev e.dot.inc;rw[show(aE G.vec (e.dot.dev,e.dot.inc)).getD 0=getM m.ctx e.dot.dev e.dot.inc from hg.vec _ _]at hv2;clear a0 a1 a2 a6 a18 al a3 hv1 h2d))
 all_goals go_wp2_with fail
 all_goals go_region_held3 (fun w'=>w'.cell? ⟨b,3,none⟩=some (.pointer (some ⟨bs,0,none⟩))/\w'.cell? ⟨w.heap.size,0,none⟩=some (.int .i64 e.dot.dev)/\w'.cell? ⟨w.heap.size,1,none⟩=some (.int .i64 e.dot.inc)/\w'.cell? ⟨w.heap.size,2,none⟩=some (.int .i64 e.dot.seq)) (simp[*]) (first|(go_at_call 67;refine hv2.mono ?_;rintro e' w3 ⟨rfl,hb3⟩;have hbf3:=hbf2.drew.trans (hb3.mono (by have:=hbf2.size;show _<=w2.heap.size;omega));have h3:=(h2.below (Below.refl w2.heap.size w2).drew).below hb3;have hv3:=Tryz.room h3 hl;rw[hroom]at hv3;have r3:=gh (eu hb3) (gh (eu (Below.refl w2.heap.size w2).drew) r2);obtain⟨c0,c1,c2,c6,c18,cl⟩:=ft r3 hcs hm;have c3:=h3.c3;clear b0 b1 b2 b6 b18 bl b3 hv2))
 all_goals go_wp2_with (go_at_call 68;refine hv3.mono ?_;rintro e' w4 ⟨rfl,rfl⟩)
 all_goals refine bodyPost_ret (results_tmp2 rfl _ _ _) rfl ?_
 all_goals exact⟨rfl,trivial,hbf3⟩
end Go.Proofs
