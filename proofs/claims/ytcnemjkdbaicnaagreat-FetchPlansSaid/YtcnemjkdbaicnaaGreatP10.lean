/- Part 10: an evaluator, proved sound, and its use at this seat; no condition. -/
import Derived.Deep.Cut
import Derived.Deep.RegionHeld3
import Derived.Test.YtcnemjkdbaicnaaGreatP8
set_option linter.unusedSimpArgs false
set_option linter.unusedVariables false
set_option linter.unusedSectionVars false
set_option linter.deprecated false
set_option maxRecDepth 100000
set_option maxHeartbeats 8000000
namespace Go.Proofs
open Go Go.Am Go.RowKit Go.Sy Go.Gm
theorem cW.qO {w w':World} {n b bk ba bd bs bv:Nat} {G:bH} (h:cW w n b bk ba bd bs bv G) (hb:fa (· =bv) w w') {V:List ((Int×Int)×Int)} (hm:aA w' bv eO cO V):cW w' n b bk ba bd bs bv {G with vec:=V}:=by
 obtain⟨n1,n2,n3,n4,n5,n6⟩:=h.ne;have hc:kc w w':=hb.cells fun k hk=>by subst hk;exact aA.isMap h.mv
 have cc:∀{b o:Nat} {v:Value},w.cell? ⟨b,o,none⟩=some v->w'.cell? ⟨b,o,none⟩=some v:=fun hv=>eo hv (hb.block _ (iB hv) fun e=>xu hv (by rw[e];exact aA.isMap h.mv))
 exact⟨cc h.c0,cc h.c1,cc h.c2,cc h.c3,cc h.cv,h.iP.same (hb.block _ (aA.lt h.iP) n3),h.ma.same (hb.block _ (aA.lt h.ma) n5),h.md.same (hb.block _ (aA.lt h.md) n6),hm,fun x hx=>(h.mi x hx).same (hb.block _ (aA.lt (h.mi x hx)) (h.sK hx).2.2.2),h.nd,h.low,fun x hx=>(h.ev x hx).cells hc⟩
theorem Cg {w:World} {bs bv:Nat} {L:List ((Int×Int)×Int)} (hs:w.cell? ⟨bs,0,none⟩=some (.map (some bv))) (hm:aA w bv eO cO L) (a i n:Int) (hd:fJ ⟨a,i,n⟩=true):
    Calls Tryz.prog 49 #[.pointer (some ⟨bs,0,none⟩), .agg #[.int .i64 a, .int .i64 i, .int .i64 n]] w fun e w'=>e= .returned (.bool (decide (n<=pn L a i)))/\Below w.heap.size w w':=by
  have hc:=fun w=>KM a i n w
  rw[hd]at hc;have hbv:bv<w.heap.size:=aA.lt hm;have hbs:bs<w.heap.size:=iB hs;obtain⟨W,hW⟩:∃W,w.alloc (.cells #[.int .i64 a, .int .i64 i, .int .i64 n] 70)=W:=⟨_,rfl⟩;have hq:Below w.heap.size w W.drew:=by rw[<-hW];exact((Below.refl w.heap.size w).alloc (Ac _) _).drew
  have hsz:W.drew.heap.size=w.heap.size+1:=by rw[<-hW];simp
  have hn0:W.drew.cell? ⟨w.heap.size,0,none⟩=some (.int .i64 a):=by rw[<-hW];simp
  have hn1:W.drew.cell? ⟨w.heap.size,1,none⟩=some (.int .i64 i):=by rw[<-hW];simp
  have hn2:W.drew.cell? ⟨w.heap.size,2,none⟩=some (.int .i64 n):=by rw[<-hW];simp
  have hge:∀{x:World} (_:x.cell? ⟨bs,0,none⟩=some (.map (some bv))) (_:aA x bv eO cO L),Calls Tryz.prog 50 #[.pointer (some ⟨bs,0,none⟩), .agg #[.int .i64 a, .int .i64 i]] x fun e w'=>e= .returned (.int .i64 (pn L a i))/\Below x.heap.size x w':=fun h1 h2=>tZ h1 h2 a i
  go_enter Tryz.func49,Tryz.ntmps49
  go_wp2_with fail
  go_region_with (first
   |(go_at_call 81;refine(hc _).mono ?_;rintro e w1 ⟨rfl,hb⟩;have hq1:=hq.trans (hb.mono (by rw[hsz];omega));have hs1:w1.cell? ⟨bs,0,none⟩=some (.map (some bv)):=(hq1.cell hbs).trans hs;have hm1:aA w1 bv eO cO L:=hm.same (hq1.block bv hbv);have hz1:=hb.size;have hb0:=(hb.cell (p:=⟨w.heap.size,0,none⟩) (by rw[hsz];grind)).trans hn0;have hb1:=(hb.cell (p:=⟨w.heap.size,1,none⟩) (by rw[hsz];grind)).trans hn1;have hb2:=(hb.cell (p:=⟨w.heap.size,2,none⟩) (by rw[hsz];grind)).trans hn2)
   |(go_at_call 50;refine(hge (by assumption) (by assumption)).mono ?_;rintro e w2 ⟨rfl,hc2⟩;have hq2:=hq1.trans (hc2.mono (by rw[hsz]at hz1;omega));have hc0:=(hc2.cell (p:=⟨w.heap.size,2,none⟩) (by rw[hsz]at hz1;show w.heap.size<_;omega)).trans hb2))
  all_goals (go_wp2)
  all_goals (go_ret)
  all_goals (exact⟨rfl,hq2⟩)
theorem fm {W:World} {bx m:Nat} {e:af} {v:Value} {cs:Array Value} (r:W.rangeAt bx 0 (db e v)) (hcs:Hid ((db e v).toArray=cs)) (hm:Hid (m=19)):
  W.cell? ⟨bx,0,none⟩=some (.int .i64 e.dot.dev)/\W.cell? ⟨bx,1,none⟩=some (.int .i64 e.dot.inc)/\W.cell? ⟨bx,2,none⟩=some (.int .i64 e.dot.seq)/\W.cell? ⟨bx,6,none⟩=some (.int .i64 e.kind)/\W.cell? ⟨bx,18,none⟩=some v/\
   (loadCellsFrom ⟨bx,0,none⟩ 0 m #[]).run Tryz.prog W= .ok cs W:=by
 have h1:=CV r;rw[show(db e v).toArray=cs from hcs,<-(show m=19 from hm)]at h1;exact⟨r 0 _ rfl,r 1 _ rfl,r 2 _ rfl,r 6 _ rfl,r 18 _ rfl,h1⟩
theorem SX {w:World} {n b bk ba bd bs bv:Nat} {G:bH} {m:aP} {e:af} {u:Value} (h:cW w n b bk ba bd bs bv G) (hg:cV G m) (hu:jm w u e) (hse:lL e) (hl:G.kept.length<=100000) (hseq:∀a i,0<=getM m.ctx a i/\getM m.ctx a i<=4294967296)
   (hno:(ew m e).2.1=false):
   Calls Tryz.prog 23 #[.pointer (some ⟨b,0,none⟩),u] w fun e' w'=>e'= .returned (.tuple #[.bool false, .int .i64 (ew m e).2.2])/\(ew m e).1=m/\Below w.heap.size w w':=by
 obtain⟨v,hu,hd⟩:=hu;obtain⟨cs,hcs⟩:∃cs:Array Value,Hid ((db e v).toArray=cs):=⟨_,rfl⟩;have hu':u= .agg cs:=by rw[hu,<-(show(db e v).toArray=cs from hcs)];rfl
 have hev0:jm w (.agg cs) e:=⟨v,by rw[<-hu',hu],hd⟩;clear hu;subst hu';obtain⟨SZ,mm,hSZ,hsz,hm⟩:=vD;obtain⟨W,hW⟩:∃W,w.alloc (.cells cs 78)=W:=⟨_,rfl⟩;have hb:Below w.heap.size w W:=by rw[<-hW];exact(Below.refl w.heap.size w).alloc (Ac _) _
 have hs:W.heap.size=w.heap.size+1:=by rw[<-hW];simp
 have hr:W.rangeAt w.heap.size 0 (db e v):=by rw[<-hW,<-(show(db e v).toArray=cs from hcs)];exact vr w e v
 have h0:=h.below hb;have hright:=Kx (hev0.cells (dJ hb)) hse;obtain⟨k0,k1,k2,k6,k18,kl⟩:=fm hr hcs hm;have hA:(∃z,ew m e=(m,false,z)):=by
   grind [ew]
 obtain⟨z,hA⟩:=hA;by_cases q1:gR e=false
 . have hz:z=1:=by have:ew m e=(m,false,1):=by{unfold ew;rw[An q1]};rw[this]at hA;grind
   rw[q1]at hright;rw[hA,hz];go_enter Tryz.func23,Tryz.ntmps23
   go_wp2_with (go_at_call 48;refine hright.mono ?_;rintro e' w1 ⟨rfl,hb1⟩;have hbf:=hb.trans (hb1.mono (by omega)))
   refine bodyPost_ret (results_tmp2 rfl _ _ _) rfl ?_;simp_all
 have q1':gR e=true:=by grind
 rw[q1']at hright;letI:Inhabited aK:=⟨⟨True,#[]⟩⟩
 have hdot:fJ e.dot=true:=ya q1';have hhas0:decide (e.dot.seq<=pn G.vec e.dot.dev e.dot.inc)=fx m.ctx e.dot:=by
   unfold fx;rw[hdot,BL,fg,hg.vec]
 by_cases q2:fx m.ctx e.dot=true
 . have hz:z=0:=by have:ew m e=(m,false,0):=by{unfold ew;rw[Al q1,An q2]};rw[this]at hA;grind
   have hhas:=hhas0.trans q2;rw[hA,hz];clear q1 q1' hhas0 q2 hA hno hev0 h hse;go_enter Tryz.func23,Tryz.ntmps23
   go_wp2_with (go_at_call 48;refine hright.mono ?_;rintro e' w1 ⟨rfl,hb1⟩;have hbf1:=hb.trans (hb1.mono (by omega));have h1:=h0.below hb1;have r1:=gv (dJ hb1) hr;obtain⟨a0,a1,a2,a6,a18,al⟩:=fm r1 hcs hm;have a3:=h1.c3;have h1d:=h1.below (Below.refl w1.heap.size w1).drew;have hv1:=Cg h1d.cv h1d.mv e.dot.dev e.dot.inc e.dot.seq hdot;rw[hhas]at hv1;clear k0 k1 k2 k6 k18 kl h1d)
   go_region_held3 (fun w'=>w'.cell? ⟨b,3,none⟩=some (.pointer (some ⟨bs,0,none⟩))/\w'.cell? ⟨w.heap.size,0,none⟩=some (.int .i64 e.dot.dev)/\w'.cell? ⟨w.heap.size,1,none⟩=some (.int .i64 e.dot.inc)/\w'.cell? ⟨w.heap.size,2,none⟩=some (.int .i64 e.dot.seq)) (simp[*]) (first|(go_at_call 49;refine hv1.mono ?_;rintro e' w2 ⟨rfl,hb2⟩;have hbf2:=hbf1.drew.trans (hb2.mono (by have:=hbf1.size;simp_all));have h2:=(h1.below (Below.refl w1.heap.size w1).drew).below hb2;have r2:=gv (dJ hb2) (gv (dJ (Below.refl w1.heap.size w1).drew) r1);obtain⟨b0,b1,b2,b6,b18,bl⟩:=fm r2 hcs hm;have b3:=h2.c3;have h2d:=h2.below (Below.refl w2.heap.size w2).drew;have hv2:=tZ h2d.cv h2d.mv e.dot.dev e.dot.inc;rw[show(aH G.vec (e.dot.dev,e.dot.inc)).getD 0=getM m.ctx e.dot.dev e.dot.inc from hg.vec _ _]at hv2;clear a0 a1 a2 a6 a18 al a3 hv1 h2d))
   all_goals go_wp2
   all_goals refine bodyPost_ret (results_tmp2 rfl _ _ _) rfl ?_
   simp_all
 have hhas:=hhas0.trans (by simpa using q2);by_cases q3:getM m.ctx e.dot.dev e.dot.inc+1≠e.dot.seq
 . have hz:z=6:=by have:ew m e=(m,false,6):=by{unfold ew;rw[Al q1,Al q2,An q3]};rw[this]at hA;grind
   have hwr:IntKind.i64.wrap (getM m.ctx e.dot.dev e.dot.inc+1)=getM m.ctx e.dot.dev e.dot.inc+1:=IntWalk.i64_in _ (by have:=hseq e.dot.dev e.dot.inc;omega);have hne:(e.dot.seq !=getM m.ctx e.dot.dev e.dot.inc+1)=true:=by grind
   rw[hA,hz];clear q1 q1' hhas0 q2 hA hno hev0 h hse q3;go_enter Tryz.func23,Tryz.ntmps23
   go_wp2_with (go_at_call 48;refine hright.mono ?_;rintro e' w1 ⟨rfl,hb1⟩;have hbf1:=hb.trans (hb1.mono (by omega));have h1:=h0.below hb1;have r1:=gv (dJ hb1) hr;obtain⟨a0,a1,a2,a6,a18,al⟩:=fm r1 hcs hm;have a3:=h1.c3;have h1d:=h1.below (Below.refl w1.heap.size w1).drew;have hv1:=Cg h1d.cv h1d.mv e.dot.dev e.dot.inc e.dot.seq hdot;rw[hhas]at hv1;clear k0 k1 k2 k6 k18 kl h1d)
   go_region_held3 (fun w'=>w'.cell? ⟨b,3,none⟩=some (.pointer (some ⟨bs,0,none⟩))/\w'.cell? ⟨w.heap.size,0,none⟩=some (.int .i64 e.dot.dev)/\w'.cell? ⟨w.heap.size,1,none⟩=some (.int .i64 e.dot.inc)/\w'.cell? ⟨w.heap.size,2,none⟩=some (.int .i64 e.dot.seq)) (simp[*]) (first|(go_at_call 49;refine hv1.mono ?_;rintro e' w2 ⟨rfl,hb2⟩;have hbf2:=hbf1.drew.trans (hb2.mono (by have:=hbf1.size;simp_all));have h2:=(h1.below (Below.refl w1.heap.size w1).drew).below hb2;have r2:=gv (dJ hb2) (gv (dJ (Below.refl w1.heap.size w1).drew) r1);obtain⟨b0,b1,b2,b6,b18,bl⟩:=fm r2 hcs hm;have b3:=h2.c3;have h2d:=h2.below (Below.refl w2.heap.size w2).drew;have hv2:=tZ h2d.cv h2d.mv e.dot.dev e.dot.inc;rw[show(aH G.vec (e.dot.dev,e.dot.inc)).getD 0=getM m.ctx e.dot.dev e.dot.inc from hg.vec _ _]at hv2;clear a0 a1 a2 a6 a18 al a3 hv1 h2d))
   all_goals go_wp2_with fail
   all_goals go_region_held3 (fun w'=>w'.cell? ⟨b,3,none⟩=some (.pointer (some ⟨bs,0,none⟩))/\w'.cell? ⟨w.heap.size,0,none⟩=some (.int .i64 e.dot.dev)/\w'.cell? ⟨w.heap.size,1,none⟩=some (.int .i64 e.dot.inc)/\w'.cell? ⟨w.heap.size,2,none⟩=some (.int .i64 e.dot.seq)) (simp[*]) (first|(go_at_call 50;refine hv2.mono ?_;rintro e' w3 ⟨rfl,hb3⟩;have hbf3:=hbf2.drew.trans (hb3.mono (by have:=hbf2.size;simp_all));have h3:=(h2.below (Below.refl w2.heap.size w2).drew).below hb3;have hv3:=Tryz.room h3 hl;  have r3:=gv (dJ hb3) (gv (dJ (Below.refl w2.heap.size w2).drew) r2);obtain⟨c0,c1,c2,c6,c18,cl⟩:=fm r3 hcs hm;have c3:=h3.c3;clear b0 b1 b2 b6 b18 bl b3 hv2))
   all_goals go_wp2
   all_goals refine bodyPost_ret (results_tmp2 rfl _ _ _) rfl ?_
   simp_all
 have q3':getM m.ctx e.dot.dev e.dot.inc+1=e.dot.seq:=by omega
 have q4:2048<=m.kept.length:=by
   grind [ew]
 have hz:z=9:=by have:ew m e=(m,false,9):=by{unfold ew;rw[Al q1,Al q2,Al q3,An q4]};rw[this]at hA;grind
 have hwr:IntKind.i64.wrap (getM m.ctx e.dot.dev e.dot.inc+1)=getM m.ctx e.dot.dev e.dot.inc+1:=IntWalk.i64_in _ (by have:=hseq e.dot.dev e.dot.inc;omega);have hne:(e.dot.seq !=getM m.ctx e.dot.dev e.dot.inc+1)=false:=by rw[q3'];simp
 have hroom:decide (1<=2048 - (G.kept.length:Int))=false:=AQ (by rw[hg.len];omega);rw[hA,hz];clear q1 q1' hhas0 q2 hA hno hev0 h hse q3 q3' q4;go_enter Tryz.func23,Tryz.ntmps23
 go_wp2_with (go_at_call 48;refine hright.mono ?_;rintro e' w1 ⟨rfl,hb1⟩;have hbf1:=hb.trans (hb1.mono (by omega));have h1:=h0.below hb1;have r1:=gv (dJ hb1) hr;obtain⟨a0,a1,a2,a6,a18,al⟩:=fm r1 hcs hm;have a3:=h1.c3;have h1d:=h1.below (Below.refl w1.heap.size w1).drew;have hv1:=Cg h1d.cv h1d.mv e.dot.dev e.dot.inc e.dot.seq hdot;rw[hhas]at hv1;clear k0 k1 k2 k6 k18 kl h1d)
 go_region_held3 (fun w'=>w'.cell? ⟨b,3,none⟩=some (.pointer (some ⟨bs,0,none⟩))/\w'.cell? ⟨w.heap.size,0,none⟩=some (.int .i64 e.dot.dev)/\w'.cell? ⟨w.heap.size,1,none⟩=some (.int .i64 e.dot.inc)/\w'.cell? ⟨w.heap.size,2,none⟩=some (.int .i64 e.dot.seq)) (simp[*]) (first|(go_at_call 49;refine hv1.mono ?_;rintro e' w2 ⟨rfl,hb2⟩;have hbf2:=hbf1.drew.trans (hb2.mono (by have:=hbf1.size;simp_all));have h2:=(h1.below (Below.refl w1.heap.size w1).drew).below hb2;have r2:=gv (dJ hb2) (gv (dJ (Below.refl w1.heap.size w1).drew) r1);obtain⟨b0,b1,b2,b6,b18,bl⟩:=fm r2 hcs hm;have b3:=h2.c3;have h2d:=h2.below (Below.refl w2.heap.size w2).drew;have hv2:=tZ h2d.cv h2d.mv e.dot.dev e.dot.inc;rw[show(aH G.vec (e.dot.dev,e.dot.inc)).getD 0=getM m.ctx e.dot.dev e.dot.inc from hg.vec _ _]at hv2;clear a0 a1 a2 a6 a18 al a3 hv1 h2d))
 all_goals go_wp2_with fail
 all_goals go_region_held3 (fun w'=>w'.cell? ⟨b,3,none⟩=some (.pointer (some ⟨bs,0,none⟩))/\w'.cell? ⟨w.heap.size,0,none⟩=some (.int .i64 e.dot.dev)/\w'.cell? ⟨w.heap.size,1,none⟩=some (.int .i64 e.dot.inc)/\w'.cell? ⟨w.heap.size,2,none⟩=some (.int .i64 e.dot.seq)) (simp[*]) (first|(go_at_call 50;refine hv2.mono ?_;rintro e' w3 ⟨rfl,hb3⟩;have hbf3:=hbf2.drew.trans (hb3.mono (by have:=hbf2.size;simp_all));have h3:=(h2.below (Below.refl w2.heap.size w2).drew).below hb3;have hv3:=Tryz.room h3 hl;rw[hroom]at hv3;have r3:=gv (dJ hb3) (gv (dJ (Below.refl w2.heap.size w2).drew) r2);obtain⟨c0,c1,c2,c6,c18,cl⟩:=fm r3 hcs hm;have c3:=h3.c3;clear b0 b1 b2 b6 b18 bl b3 hv2))
 all_goals go_wp2_with (go_at_call 51;refine hv3.mono ?_;rintro e' w4 ⟨rfl,rfl⟩)
 all_goals refine bodyPost_ret (results_tmp2 rfl _ _ _) rfl ?_
 simp_all
theorem qvl {bk ba bd bv i j:Nat} {G:bH} {k:aG} {L:DL} {K:List (au×(Value×af))} {V:List ((Int×Int)×Int)} {N:Nat} (hal:aH G.alive k=none) (hj:N<=j) (hi:i<N) (h:dY bk ba bd bv ⟨K,cD G.alive k (j,L),G.dead,V⟩ i):dY bk ba bd bv G i:=by
 grind [dY,cD]
theorem qvm {bk ba bd bv i j:Nat} {G:bH} {k:aG} {L L':DL} {K:List (au×(Value×af))} {V:List ((Int×Int)×Int)} (hn:(G.alive.map (·.1)).Nodup) (hal:aH G.alive k=some (j,L)) (h:dY bk ba bd bv ⟨K,cD G.alive k (j,L'),G.dead,V⟩ i):dY bk ba bd bv G i:=by
 grind [dY,wg]
theorem Ws {G:bH} (hn:(G.alive.map (·.1)).Nodup) (d:au) {j:Nat} (h:j∈(kX G d).alive.map (·.2.1)):j∈G.alive.map (·.2.1):=by
 unfold kX at h;grind [oL,dA,wg]
theorem L0 {G:bH} {l:List au} {k:Nat} (h:k<l.length):lr G (l.take (k+1))=kX (lr G (l.take k)) l[k]:=by
 grind [lr,List.take_succ_eq_append_getElem]
theorem TK {w:World} {n b bk ba bd bs bv:Nat} {G:bH} {m:aP} {e:af} {u:Value} (h:cW w n b bk ba bd bs bv G) (hg:cV G m) (hn:n<=w.heap.size) (hu:jm w u e) (hse:lL e) (hover:e.over.length<=100000) (hseq:∀a i,0<=getM m.ctx a i/\getM m.ctx a i<=4294967296)
  (q1:gR e=true) (q2:fx m.ctx e.dot=false) (q3:getM m.ctx e.dot.dev e.dot.inc+1=e.dot.seq) (q4:¬2048<=m.kept.length):
  Calls Tryz.prog 23 #[.pointer (some ⟨b,0,none⟩),u] w fun e' w'=>e'= .returned (.tuple #[.bool true, .int .i64 0])/\fa (dY bk ba bd bv G) w w'/\ ∃G',cW w' n b bk ba bd bs bv G'/\cV G' (ew m e).1:=by
 obtain⟨v,hu,hd⟩:=hu;obtain⟨va,vn,vc,hve⟩:=hd.one;obtain⟨cs,hcs⟩:∃cs:Array Value,Hid ((db e v).toArray=cs):=⟨_,rfl⟩;have hu':u= .agg cs:=by rw[hu,<-(show(db e v).toArray=cs from hcs)];rfl
 have hev0:jm w (.agg cs) e:=⟨v,by rw[<-hu',hu],hd⟩;clear hu;subst hu';obtain⟨SZ,mm,hSZ,hsz,hm⟩:=vD;obtain⟨W,hW⟩:∃W,w.alloc (.cells cs 78)=W:=⟨_,rfl⟩;have hb:Below w.heap.size w W:=by rw[<-hW];exact(Below.refl w.heap.size w).alloc (Ac _) _
 have hs:W.heap.size=w.heap.size+1:=by rw[<-hW];simp
 have hr:W.rangeAt w.heap.size 0 (db e v):=by rw[<-hW,<-(show(db e v).toArray=cs from hcs)];exact vr w e v
 have h0:=h.below hb;have hright:=Kx (hev0.cells (dJ hb)) hse;obtain⟨k0,k1,k2,k6,k18,kl⟩:=fm hr hcs hm;rw[q1]at hright;letI:Inhabited aK:=⟨⟨True,#[]⟩⟩
 have hdot:fJ e.dot=true:=ya q1;have hhas:decide (e.dot.seq<=pn G.vec e.dot.dev e.dot.inc)=false:=by
  have hh:decide (e.dot.seq<=pn G.vec e.dot.dev e.dot.inc)=fx m.ctx e.dot:=by
   unfold fx;rw[hdot,BL,fg,hg.vec]
  rw[hh,q2]
 have hwr:IntKind.i64.wrap (getM m.ctx e.dot.dev e.dot.inc+1)=getM m.ctx e.dot.dev e.dot.inc+1:=IntWalk.i64_in _ (by have:=hseq e.dot.dev e.dot.inc;omega);have hne:(e.dot.seq !=getM m.ctx e.dot.dev e.dot.inc+1)=false:=by rw[q3];simp
 have hl:G.kept.length<=100000:=by rw[hg.len];omega
 have hroom:decide (1<=2048 - (G.kept.length:Int))=true:=BU (by rw[hg.len];omega);have hprev:(aH G.vec (e.dot.dev,e.dot.inc)).getD 0=e.dot.seq - 1:=by
  have:=hg.vec e.dot.dev e.dot.inc;grind [pn]
 have hfin:=fun(v:Value) (nb:Nat)=>(hg.apply v nb q1 q2 q3 q4).1
 have hfinal:Hid (∀(v:Value) (nb:Nat),cV (rE G e v nb) (ew m e).1):=hfin;clear hfin;have hgv:=hg.vec;clear q1 q2 q3 q4 hg;go_enter Tryz.func23,Tryz.ntmps23
 go_wp2_with (go_at_call 48;refine hright.mono ?_;rintro e' w1 ⟨rfl,hb1⟩;have hbf1:=hb.trans (hb1.mono (by omega));have h1:=h0.below hb1;have r1:=gv (dJ hb1) hr;obtain⟨a0,a1,a2,a6,a18,al⟩:=fm r1 hcs hm;have a3:=h1.c3;have h1d:=h1.below (Below.refl w1.heap.size w1).drew;have hv1:=Cg h1d.cv h1d.mv e.dot.dev e.dot.inc e.dot.seq hdot;rw[hhas]at hv1;have hev1:=(hev0.cells (dJ hb)).cells (dJ hb1);clear k0 k1 k2 k6 k18 kl h1d)
 go_region_held3 (fun w'=>w'.cell? ⟨b,3,none⟩=some (.pointer (some ⟨bs,0,none⟩))/\w'.cell? ⟨w.heap.size,0,none⟩=some (.int .i64 e.dot.dev)/\w'.cell? ⟨w.heap.size,1,none⟩=some (.int .i64 e.dot.inc)/\w'.cell? ⟨w.heap.size,2,none⟩=some (.int .i64 e.dot.seq)) (simp[*]) (first|(go_at_call 49;refine hv1.mono ?_;rintro e' w2 ⟨rfl,hb2⟩;have hbf2:=hbf1.drew.trans (hb2.mono (by have:=hbf1.size;simp_all));have h2:=(h1.below (Below.refl w1.heap.size w1).drew).below hb2;have r2:=gv (dJ hb2) (gv (dJ (Below.refl w1.heap.size w1).drew) r1);obtain⟨b0,b1,b2,b6,b18,bl⟩:=fm r2 hcs hm;have b3:=h2.c3;have h2d:=h2.below (Below.refl w2.heap.size w2).drew;have hv2:=tZ h2d.cv h2d.mv e.dot.dev e.dot.inc;rw[show(aH G.vec (e.dot.dev,e.dot.inc)).getD 0=getM m.ctx e.dot.dev e.dot.inc from hgv _ _]at hv2;have hev2:jm w2 (.agg cs) e:=hev1.cells (fun bb arr t fz hx=>dJ hb2 bb arr t fz hx);clear a0 a1 a2 a6 a18 al a3 hv1 h2d))
 all_goals go_wp2_with fail
 all_goals go_region_held3 (fun w'=>w'.cell? ⟨b,3,none⟩=some (.pointer (some ⟨bs,0,none⟩))/\w'.cell? ⟨w.heap.size,0,none⟩=some (.int .i64 e.dot.dev)/\w'.cell? ⟨w.heap.size,1,none⟩=some (.int .i64 e.dot.inc)/\w'.cell? ⟨w.heap.size,2,none⟩=some (.int .i64 e.dot.seq)) (simp[*]) (first|(go_at_call 50;refine hv2.mono ?_;rintro e' w3 ⟨rfl,hb3⟩;have hbf3:=hbf2.drew.trans (hb3.mono (by have:=hbf2.size;simp_all));have h3:=(h2.below (Below.refl w2.heap.size w2).drew).below hb3;have hv3:=Tryz.room h3 hl;rw[hroom]at hv3;have r3:=gv (dJ hb3) (gv (dJ (Below.refl w2.heap.size w2).drew) r2);obtain⟨c0,c1,c2,c6,c18,cl⟩:=fm r3 hcs hm;have c3:=h3.c3;have hev3:jm w3 (.agg cs) e:=hev2.cells (fun bb arr t fz hx=>dJ hb3 bb arr t fz hx);clear b0 b1 b2 b6 b18 bl b3 hv2))
 all_goals go_wp2_with (go_at_call 51;refine hv3.mono ?_;rintro e' w4 ⟨rfl,rfl⟩;have h3d:=h3.below (Below.refl w4.heap.size w4).drew;have hv4:=UM h3d.cv h3d.mv e.dot.dev e.dot.inc e.dot.seq (fun hh=>xu h3d.cv (by rw[hh];exact aA.isMap h3d.mv)) hdot hprev;clear hv3)
 all_goals go_region_held3 (fun w'=>w'.cell? ⟨b,3,none⟩=some (.pointer (some ⟨bs,0,none⟩))/\w'.cell? ⟨w.heap.size,0,none⟩=some (.int .i64 e.dot.dev)/\w'.cell? ⟨w.heap.size,1,none⟩=some (.int .i64 e.dot.inc)/\w'.cell? ⟨w.heap.size,2,none⟩=some (.int .i64 e.dot.seq)) (simp[*]) (first|(go_at_call 52;refine hv4.mono ?_;rintro e' w5 ⟨rfl,hb5,hmv5⟩;have h5:=h3d.qO hb5 hmv5;have hbut5:fa (dY bk ba bd bv G) w w5:=(mq hbf3.drew).trans (hb5.mono fun k _ hk=>by grind [dY]);have hc5:kc w4.drew w5:=hb5.cells (fun k hk=>by(rw[hk];exact aA.isMap h3d.mv));have r5:=gv hc5 (gv (dJ (Below.refl w4.heap.size w4).drew) r3);obtain⟨d0,d1,d2,d6,d18,dl⟩:=fm r5 hcs hm;have d3:=h5.c3;have e0:=h5.c0;obtain⟨-, -, -, -, -,dl'⟩:=fm (gv (dJ (Below.refl w5.heap.size w5).drew) r5) hcs hm;have hev5:jm w5.drew (.agg cs) e:=hev3.cells (fun bb arr t fz hx=>hc5 bb arr t fz hx);have hv5:=SE hev5 hover;clear c0 c1 c2 c6 c18 cl c3 hv4))
 all_goals go_wp2_with fail
 all_goals go_region_held3 (fun w'=>w'.cell? ⟨b,0,none⟩=some (.map (some bk))/\w'.cell? ⟨w.heap.size,0,none⟩=some (.int .i64 e.dot.dev)/\w'.cell? ⟨w.heap.size,1,none⟩=some (.int .i64 e.dot.inc)/\w'.cell? ⟨w.heap.size,2,none⟩=some (.int .i64 e.dot.seq)/\(loadCellsFrom ⟨w.heap.size,0,none⟩ 0 mm #[]).run Tryz.prog w'= .ok cs w') (simp[*]) (first|(go_at_call 53;refine hv5.mono ?_;rintro e' w6 ⟨u',rfl,hev6,hb6⟩;have h6:=(h5.below (Below.refl w5.heap.size w5).drew).below hb6;have r6:=gv (dJ hb6) (gv (dJ (Below.refl w5.heap.size w5).drew) r5);obtain⟨f0,f1,f2,f6,f18,fl⟩:=fm r6 hcs hm;have f3:=h6.c0;obtain⟨es,clk,hup,hmu⟩:=h6.iP.update jc Tryz.underlying102 e.dot (u',e);rw[show bX e.dot= .agg #[.int .i64 e.dot.dev, .int .i64 e.dot.inc, .int .i64 e.dot.seq]from rfl,show rN (u',e)=u' from rfl]at hup;have h7:=h6.pL (x:=(u',e)) hev6 hmu;have hbut6:fa (dY bk ba bd bv G) w w6:=hbut5.drew.trans (mq hb6);have hbut7:fa (dY bk ba bd bv G) w (World.aY w6 bk (.map es clk)):=hbut6.trans (yj (aA.isMap h6.iP) (by grind [dY]));have r7:(World.aY w6 bk (.map es clk)).rangeAt w.heap.size 0 (db e v):=gv (LN (aA.isMap h6.iP)) r6;obtain⟨W7,hW7⟩:∃W7,World.aY w6 bk (.map es clk)=W7:=⟨_,rfl⟩;rw[hW7]at hup h7 hbut7 r7;obtain⟨g0,g1,g2,g6,g18,gl⟩:=fm r7 hcs hm;have g3:=h7.c0;clear d0 d1 d2 d6 d18 dl d3 e0 hv5 hmu))
 rename_i Q0 K0 hK0 hS0;clear hS0;refine hK0 _ _ ?_;apply wp_seq_k;intro K1 hK1;go_cut []from 6 (fun wc=>fa (dY bk ba bd bv G) w wc/\(∃nb,cW wc n b bk ba bd bs bv (iU (il G e u') e nb)/\ ∀i,i<w.heap.size->dY bk ba bd bv (iU (il G e u') e nb) i->dY bk ba bd bv G i)/\wc.rangeAt w.heap.size 0 (db e v))
 case rest=>
  obtain⟨hbutc,⟨nb,hc,hmc⟩,rc⟩:=hcut;have hmapsW:=h.maps;obtain⟨p0,p1,p2,p6,p18,pl⟩:=fm rc hcs hm;rw[hve]at p18;have hlenv:vn=e.over.length:=by
   rw[hve]at hd;rcases hd with⟨h0,a,c,hh⟩|⟨_,_,_,_,_,_,hh,_⟩
   all_goals grind
  subst hlenv;clear h h0 hr hright hev0;go_wp2;go_loopw [72] (fun i wr=>∃k:Nat,k<=e.over.length/\i= .int .i64 k/\fa (dY bk ba bd bv G) w wr/\cW wr n b bk ba bd bs bv (lr (iU (il G e u') e nb) (e.over.take k))/\ ∀i,i<w.heap.size->dY bk ba bd bv (lr (iU (il G e u') e nb) (e.over.take k)) i->dY bk ba bd bv G i)
   (fun i _=>e.over.length - (intOf i).toNat)
  case atStart=>exact⟨0,Ao _,rfl,hbutc,by rw[DM];exact hc,by rw[DM];exact hmc⟩
  case round=>
   obtain⟨k,hk,rfl,hbr,hor,hmr⟩:=hrel;by_cases hlt:k<e.over.length
   . have hstay:kc w wr:=hbr.cells hmapsW;rw[hve]at hd;rcases hd with⟨h0,_⟩|⟨ob,off,cap,arr,ty,fz,hh,hob,hcap,hlen,hcells⟩
     . rw[h0]at hlt;grind
     . simp only[Value.slice.injEq]at hh;obtain⟨rfl, -,rfl⟩:=hh;obtain⟨x0,x1,x2⟩:=hcells k hlt;have hobr:=hstay _ _ _ _ hob;have cell:∀{j:Nat} {u:Value},arr[j]? =some u->wr.cell? ⟨ob,j,none⟩=some u:=fun hx=>by
        grind [World.cell?]
       have c0:=cell x0;have c1:=cell x1;have c2:=cell x2;have hba:Below wr.heap.size wr (wr.alloc (.cells #[.int .i64 e.over[k].dev, .int .i64 e.over[k].inc, .int .i64 e.over[k].seq] 70)):=(Below.refl wr.heap.size wr).alloc (Ac _) _;have hkill:=Tryz.kill (hor.below hba) e.over[k];have hnda:=hor.ma.nd;have hwrs:=hbr.size;rw[show bX e.over[k]= .agg #[.int .i64 e.over[k].dev, .int .i64 e.over[k].inc, .int .i64 e.over[k].seq]from rfl]at hkill;clear hcells x0 x1 x2 cell hob hobr hstay hlen rc hc hbutc p0 p1 p2 p6 pl p18;go_wp2_with (go_at_call 56;refine hkill.mono ?_;rintro e' w9 ⟨rfl,hb9,h9⟩;have R1:fa (dY bk ba bd bv G) w w9:=(hbr.more (mq (S:=fun _=>False) hba) (fun _ _ h=>h.elim)).more hb9 (fun i hi hh=>hmr i hi hh);rw[<-L0 hlt]at h9)
       go_roundw
       case rel=>
        refine⟨k+1,hlt,by go_num,R1,h9,fun i hi hh=>hmr i hi ?_⟩;rw[L0 hlt]at hh;grind [dY,Ws]
       grind [intOf]
   . have hkl:k=e.over.length:=by omega
     subst hkl;rw[A6]at hor;go_wp2;refine bodyPost_ret (results_tmp2 rfl _ _ _) rfl ?_;exact⟨rfl,hbr,_,hor,(show ∀(v:Value) (nb:Nat),cV (rE G e v nb) (ew m e).1 from hfinal) u' nb⟩
 case first=>
  have h7':cW W7 n b bk ba bd bs bv (il G e u'):=h7;have hencv:iK e v= .agg cs:=by rw[<-(show(db e v).toArray=cs from hcs)];rfl
  by_cases kd:e.kind=1
  case neg=>
   have hL:iU (il G e u') e 0=il G e u':=by unfold iU;rw[Al (fun hh=>kd hh.1)]
   go_wp2;go_meet
   case rel=>exact⟨hbut7,⟨0,by rw[hL];exact⟨h7',fun _ _ hh=>hh⟩⟩,r7⟩
  case pos=>
   rw[kd]at g6;have hdead:=Tryz.dead h7' e.dot;rw[show bX e.dot= .agg #[.int .i64 e.dot.dev, .int .i64 e.dot.inc, .int .i64 e.dot.seq]from rfl,show(il G e u').dead=G.dead from rfl]at hdead
   cases hdd:aH G.dead e.dot with
   | some z=>
     rw[hdd]at hdead;have hL:iU (il G e u') e 0=il G e u':=by
       unfold iU;rw[Al (fun hh=>by have:=hh.2;rw[show(il G e u').dead=G.dead from rfl,hdd]at this;cases this)]
     go_wp2_with (go_at_call 54;refine hdead.mono ?_;rintro e' w8 ⟨rfl,hb8⟩;have h8:=h7'.below hb8;have r8:=gv (dJ hb8) r7;have hbut8:=hbut7.more (mq (S:=fun _=>False) hb8) (fun _ _ h=>h.elim))
     go_meet
     case rel=>exact⟨hbut8,⟨0,by rw[hL];exact⟨h8,fun _ _ hh=>hh⟩⟩,r8⟩
   | none=>
     rw[hdd]at hdead
     cases hal:aH G.alive e.key with
     | none=>
       have hL:∀nb,iU (il G e u') e nb={il G e u' with alive:=cD G.alive e.key (nb,[(e.dot,1)])}:=fun nb=>by
        unfold iU qB;rw[An ⟨kd,hdd⟩,show(il G e u').alive=G.alive from rfl,hal]
       go_wp2_with (first
        |(go_at_call 54;refine hdead.mono ?_;rintro e' w8 ⟨rfl,hb8⟩;have h8:=h7'.below hb8;have r8:=gv (dJ hb8) r7;have hbut8:=hbut7.more (mq (S:=fun _=>False) hb8) (fun _ _ h=>h.elim);obtain⟨j0,j1,j2,j6,qX,jl⟩:=fm r8 hcs hm;have hlive:=TN h8 (by have:=hbut8.size;omega) e v hal;rw[hencv]at hlive)
        |(go_at_call 55;refine hlive.mono ?_;rintro e' w9 ⟨rfl,hb9,nb,hnb,h9⟩;have r9:=gv (hb9.cells h8.maps) r8;have hbut9:fa (dY bk ba bd bv G) w w9:=hbut8.trans hb9))
       go_meet
       case rel=>exact⟨hbut9,⟨nb,by rw[hL];exact⟨h9,fun i hi hh=>qvl hal (by have:=hbut8.size;omega) hi hh⟩⟩,r9⟩
     | some x=>
       obtain⟨jb,L⟩:=x;have hL:iU (il G e u') e 0={il G e u' with alive:=cD G.alive e.key (jb,cD L e.dot 1)}:=by
        unfold iU qB;rw[An ⟨kd,hdd⟩,show(il G e u').alive=G.alive from rfl,hal]
       go_wp2_with (first
        |(go_at_call 54;refine hdead.mono ?_;rintro e' w8 ⟨rfl,hb8⟩;have h8:=h7'.below hb8;have r8:=gv (dJ hb8) r7;have hbut8:=hbut7.more (mq (S:=fun _=>False) hb8) (fun _ _ h=>h.elim);obtain⟨j0,j1,j2,j6,qX,jl⟩:=fm r8 hcs hm;have hlive:=TP h8 e v hal;rw[hencv]at hlive)
        |(go_at_call 55;refine hlive.mono ?_;rintro e' w9 ⟨rfl,hb9,h9⟩;have r9:=gv (hb9.cells h8.maps) r8;have hbut9:fa (dY bk ba bd bv G) w w9:=hbut8.trans hb9))
       go_meet
       case rel=>exact⟨hbut9,⟨0,by rw[hL];exact⟨h9,fun i hi hh=>qvm h.ma.nd hal hh⟩⟩,r9⟩
end Go.Proofs
namespace Go.Proofs
open Go Go.Am Go.RowKit Go.Sy Go.Gm Go.Maps Go.Sort Go.Shelf
section
inductive Flat:SV->Prop
 |bool (b:Bool):Flat (.bool b)
 |int (k:IntKind) (n:Int):Flat (.int k n)
 |str (s:List UInt8):Flat (.str s)
 |wp (a:Addr):Flat (.wp a)
 |bn {X:Type} {L:List X} {enc:X->List SV} (h:∀(i:Nat) x (j:Nat) v,L[i]? =some x->(enc x)[j]? =some v->Flat v):Flat (.bn X L enc)
theorem Fm (l:List au):Flat (cK l):= .bn fun i x j v _ hv=>by
 have hj:j<3:=(Ae.1 hv).1;match j,hj with
 |0,_|1,_|2,_=>cases hv;exact .int _ _
theorem yC (l:List af):Flat (cG l):= .bn fun i x j v _ hv=>by
 have hj:j<19:=(Ae.1 hv).1;match j,hj with
 |0,_|1,_|2,_|3,_|4,_|5,_|6,_|15,_|16,_|17,_=>cases hv;exact .int _ _
 |7,_|8,_|9,_|10,_=>cases hv;exact .str _
 |11,_|12,_|13,_|14,_=>cases hv;exact .bool _
 |18,_=>cases hv;exact Fm _
section
variable [Inhabited aK] {tab:bC} {w:World} {p:Nat->Prop} {g:Bool}
theorem X4 {n:Nat} (a:Option Addr) (c:Nat):cJ n (.slice a 0 c)= .nils\/cJ n (.slice a 0 c)= .raw (.slice a 0 c):=by
 unfold cJ;split<;>simp_all
theorem rF {s:SV} (hf:Flat s):∀{v:Value},Rd w p g s v->aT (bY tab w).get s (cJ w.heap.size v):=by
 induction hf with
 |bool b=>intro v h;cases h;exact .bool b
 |int k n=>intro v h;cases h;exact .int k n
 |str s=>intro v h;cases h;exact .str s
 |wp a=>intro v h;cases h;exact .wp a
 | @bn X L enc hfl ih=>
  intro v h
  cases h with
  |fP h0=>exact .ch h0 (.inl rfl)
  |ch h h0 a c=>
   rcases X4 (n:=w.heap.size) a c with e|e
   . rw[e];exact .ch h0 (.inl rfl)
   . rw[e];exact .ch h0 (.inr (.inr ⟨_,_,rfl⟩))
  |bn b off cap arr e fz sz u hp hb hs hl hn hc h1 h2=>
   exact yg hb hs (fun x hx=>by obtain⟨i,hi,rfl⟩:=AK hx;exact hn i _ (Ai hi)) hl rfl hc (fun i x j v hx hv=>⟨u i j,h1 i x j v hx hv,ih i x j v hx hv (h2 i x j v hx hv)⟩)
theorem Zl {s:SV} (hf:Flat s) {v:Value} (h:Rd w p g s v) (n:Nat):dz n v=cJ n v:=by
 cases hf<;>cases h<;>rfl
theorem qzf {s:SV} (hf:Flat s) {v:Value} (h:Rd w p g s v):aT (bY tab w).get s (dz w.heap.size v):=by
 rw[Zl hf h];grind [rF]
theorem Px {cs:List SV} (hf:∀c∈cs,Flat c) {v:Value} (h:Rd w p g (.agg cs) v):aT (bY tab w).get (.agg cs) (dz w.heap.size v):=by
 cases h with
 | @agg cs vs h1 h2=>
  show aT _ (.agg cs) (.agg (vs.toList.map (cJ w.heap.size)))
  refine .agg (by grind) fun i c v hc hv=>?_
  rw[AI]at hv
  cases hi:vs.toList[i]? with
  |none=>rw[hi]at hv;cases hv
  |some x=>
   rw[hi]at hv;grind [rF]
theorem Qb {s:SV} {v:Value} (h:aT (bY tab w).get s (dz w.heap.size v)):Rd w (fun _=>True) true s v:=by
 have:=vB (ph tab w (E:=⟨fun i=>i,fun _=>0⟩) (fun _ _=>rfl)) (fun _ _ h=>h) h;rwa [Fw (fun _ _=>rfl)]at this
end
def eJ (w:World) (l:List af) (v:Value):Prop:=(l=[]/\ ∃a c,v= .slice a 0 c)\/ ∃b off cap arr e fz,v= .slice (some ⟨b,off,none⟩) l.length cap/\w.heap[b]? =some (.cells arr e fz)/\l.length<=cap/\off+l.length*19<=arr.size/\
 ∀i (h:i<l.length),∃u,(∀j,j<19->arr[off+i*19+j]? =(db l[i] u)[j]?)/\cL w l[i].over u
theorem eJ.cells {w w':World} (hc:kc w w') {l:List af} {v:Value} (h:eJ w l v):eJ w' l v:=by
 rcases h with h|⟨b,off,cap,arr,e,fz,h1,h2,h3,h5,h4⟩
 . exact .inl h
 . exact .inr ⟨b,off,cap,arr,e,fz,h1,hc _ _ _ _ h2,h3,h5,fun i hi=>by obtain⟨u,k1,k2⟩:=h4 i hi;exact⟨u,k1,k2.cells hc⟩⟩
theorem eJ.one {w:World} {l:List af} {v:Value} (h:eJ w l v):∃a c,v= .slice a l.length c:=by
 rcases h with⟨rfl,a,c,rfl⟩|⟨b,off,cap,arr,e,fz,rfl,_⟩<;>exact⟨_,_,rfl⟩
theorem Py [Inhabited aK] {w:World} {p:Nat->Prop} {g:Bool} {l:List af} {v:Value} (h:Rd w p g (cG l) v):eJ w l v:=by
 unfold cG at h
 cases h with
 |fP h0=>exact .inl ⟨AY.1 h0,_,_,rfl⟩
 |ch h h0 a c=>exact .inl ⟨AY.1 h0,_,_,rfl⟩
 |bn b off cap arr e fz sz u hp hb hs hl hn hc h1 h2=>
  by_cases h0:l=[]
  . subst h0;exact .inl ⟨rfl,_,_,rfl⟩
  . have hsz:sz=19:=by
     obtain⟨x,l',rfl⟩:=Dx h0;exact(hn 0 x rfl).symm
    subst hsz;refine .inr ⟨b,off,cap,arr,e,fz,rfl,hb,hc,hl,fun i hi=>?_⟩;have hx:l[i]? =some l[i]:=Ai hi;have key:∀(j:Nat) s,(af.enc l[i])[j]? =some s->arr[off+i*19+j]? =some (u i j)/\Rd w p g s (u i j):=fun j s hs=>⟨h1 i _ j s hx hs,h2 i _ j s hx hs⟩
    refine⟨u i 18,fun j hj=>?_,Gw (key 18 _ rfl).2⟩;match j,hj with
    |0,_|1,_|2,_|3,_|4,_|5,_|6,_|15,_|16,_|17,_=>rw[(key _ _ rfl).1,ji (key _ _ rfl).2];rfl
    |7,_|8,_|9,_|10,_=>rw[(key _ _ rfl).1,qt (key _ _ rfl).2];rfl
    |11,_|12,_|13,_|14,_=>rw[(key _ _ rfl).1,tq (key _ _ rfl).2];rfl
    |18,_=>rw[(key _ _ rfl).1];rfl
    |_+19,h=>omega
theorem zy [Inhabited aK] {w:World} {l:List af} {v:Value} (h:eJ w l v):Rd w (fun _=>True) true (cG l) v:=by
 unfold cG;rcases h with⟨rfl,a,c,rfl⟩|⟨b,off,cap,arr,e,fz,rfl,hb,hc,hl,hi⟩
 . exact .ch rfl rfl a c
 . refine .bn b off cap arr e fz 19 (fun i j=>(arr[off+i*19+j]?).getD (.bool false)) trivial hb (by decide) hl (fun _ _ _=>rfl) hc (fun i x j v hx hv=>?_) (fun i x j v hx hv=>?_)
   all_goals
     have hil:i<l.length:=(Ae.1 hx).1;have hxe:l[i]=x:=(Ae.1 hx).2;obtain⟨u,hcl,hd⟩:=hi i hil;rw[hxe]at hcl hd;have hj:j<19:=(Ae.1 hv).1;have hcl:=hcl j hj
   . rw[hcl,Ai (show j<(db x u).length from hj)];rfl
   . show Rd w _ true v ((arr[off+i*19+j]?).getD _)
     rw[hcl];match j,hj with
     |0,_|1,_|2,_|3,_|4,_|5,_|6,_|15,_|16,_|17,_=>cases hv;exact .int _ _
     |7,_|8,_|9,_|10,_=>cases hv;exact .str _
     |11,_|12,_|13,_|14,_=>cases hv;exact .bool _
     |18,_=>cases hv;exact GX hd
theorem S8 {w:World} {b off:Nat} {arr:Array Value} {e:TypeId} {fz:Nat×Nat} {x:af} {u:Value} {i:Nat} (hb:w.heap[b]? =some (.cells arr e fz)) (hc:∀j,j<19->arr[off+i*19+j]? =(db x u)[j]?):
  (loadCellsFrom ⟨b,off+i*19,none⟩ 0 19 #[]).run Tryz.prog w= .ok (db x u).toArray w:=by
 have hl:(loadCells ⟨b,off+i*19,none⟩ (db x u).length).run Tryz.prog w= .ok (db x u).toArray w:=
  run_loadCells_list (P:=Tryz.prog) w ⟨b,off+i*19,none⟩ (db x u) (fun j v hv=>by
   have hj:j<19:=(Ae.1 hv).1;rw[Addr.add_mid];grind [World.cell?])
 exact hl
theorem cW.heap {w w':World} {n b bk ba bd bs bv:Nat} {G:bH} (h:cW w n b bk ba bd bs bv G) (hs:∀i,i<w.heap.size->w'.heap[i]? =w.heap[i]?):cW w' n b bk ba bd bs bv G where
 c0:=eo h.c0 (hs _ (iB h.c0))
 c1:=eo h.c1 (hs _ (iB h.c1))
 c2:=eo h.c2 (hs _ (iB h.c2))
 c3:=eo h.c3 (hs _ (iB h.c3))
 cv:=eo h.cv (hs _ (iB h.cv))
 iP:=h.iP.same (hs _ h.iP.lt)
 ma:=h.ma.same (hs _ h.ma.lt)
 md:=h.md.same (hs _ h.md.lt)
 mv:=h.mv.same (hs _ h.mv.lt)
 mi:=fun x hx=>(h.mi x hx).same (hs _ (h.mi x hx).lt)
 nd:=h.nd
 low:=h.low
 ev:=fun x hx=>(h.ev x hx).cells fun c arr e fz hc=>by rw[hs _ (Ab.1 hc).1];exact hc
abbrev oH (w:World):Inhabited aK:=⟨⟨False,w.heap⟩⟩
theorem Zf {w:World} {n b bk ba bd bs bv:Nat} {G:bH} {m:aP} (h:cW w n b bk ba bd bs bv G) (g:cV G m) (ok:fQ m) (hov:∀e∈m.kept,e.over.length<=100000): @cT (oH w) b m:=
 letI:Inhabited aK:=oH w
 ⟨ok,hov,fun w' hw=>⟨n,bk,ba,bd,bs,bv,G,h.heap fun i hi=>hw i hi,g⟩⟩
theorem Tryz.apply {w:World} {n b bk ba bd bs bv:Nat} {G:bH} {m:aP} {e:af} {u:Value} (h:cW w n b bk ba bd bs bv G) (hg:cV G m) (hn:n<=w.heap.size) (hu:jm w u e) (hse:lL e) (hover:e.over.length<=100000) (ok:fQ m):
  Calls Tryz.prog 23 #[.pointer (some ⟨b,0,none⟩),u] w fun e' w'=>e'= .returned (.tuple #[.bool (ew m e).2.1, .int .i64 (ew m e).2.2])/\Below n w w'/\kc w w'/\ ∃G',cW w' n b bk ba bd bs bv G'/\cV G' (ew m e).1:=by
 letI:Inhabited aK:=⟨⟨True,#[]⟩⟩
 have hseq:=LZ ok.seq;have hl:G.kept.length<=100000:=by rw[hg.len];have:=ok.kept;omega
 cases hA:(ew m e).2.1 with
 |false=>
  refine(SX h hg hu hse hl hseq hA).mono ?_;rintro e' w' ⟨rfl,he,hb⟩;exact⟨rfl,hb.mono hn,dJ hb,G,h.below hb,by rw[he];exact hg⟩
 |true=>
  have hq:gR e=true/\fx m.ctx e.dot=false/\getM m.ctx e.dot.dev e.dot.inc+1=e.dot.seq/\ ¬2048<=m.kept.length/\(ew m e).2.2=0:=by
    grind [ew]
  obtain⟨q1,q2,q3,q4,q5⟩:=hq;rw[q5];refine(TK h hg hn hu hse hover hseq q1 q2 q3 q4).mono ?_;rintro e' w' ⟨rfl,hb,G',h1,h2⟩;have hmaps:=h.maps;refine⟨rfl,⟨hb.os,hb.tape,hb.output,hb.size,fun k hk=>hb.block k (by omega) fun hm=>?_⟩,fun c arr ty fz hc=>?_,G',h1,h2⟩
  . have:=h.low k (by grind [dY]);omega
  . rw[hb.block c (Ab.1 hc).1 fun hm=>?_]
    . exact hc
    . obtain⟨es,clk,he⟩:=hmaps c hm;rw[hc]at he;cases he
end
section
variable [Inhabited aK]
end
end Go.Proofs
