/- Part 9: an evaluator, proved sound, and its use at this seat; no condition. -/
import Derived.Deep.Cut
import Derived.Deep.RegionHeld3
import Derived.Test.YtcnemjkdbaicnaaGreatP8
set_option linter.unusedSimpArgs false
set_option linter.unusedVariables false
set_option linter.unusedSectionVars false
set_option linter.deprecated false
set_option maxRecDepth 100000
set_option maxHeartbeats 8000000
namespace Go.Proofs
open Go Go.Am Go.RowKit Go.Sy Go.Gm
theorem fc {W:World} {bx m:Nat} {e:ae} {v:Value} {cs:Array Value} (r:W.rangeAt bx 0 (cN e v)) (hcs:Hid ((cN e v).toArray=cs)) (hm:Hid (m=19)):
  W.cell? ⟨bx,0,none⟩=some (.int .i64 e.dot.dev)/\W.cell? ⟨bx,1,none⟩=some (.int .i64 e.dot.inc)/\W.cell? ⟨bx,2,none⟩=some (.int .i64 e.dot.seq)/\W.cell? ⟨bx,6,none⟩=some (.int .i64 e.kind)/\W.cell? ⟨bx,18,none⟩=some v/\
   (loadCellsFrom ⟨bx,0,none⟩ 0 m #[]).run Tryz.prog W= .ok cs W:=by
 have h1:=Gh r;rw[show(cN e v).toArray=cs from hcs,<-(show m=19 from hm)]at h1;exact⟨r 0 _ rfl,r 1 _ rfl,r 2 _ rfl,r 6 _ rfl,r 18 _ rfl,h1⟩
theorem Ou {w:World} {n b bk ba bd bs bv:Nat} {G:bg} {m:aN} {e:ae} {u:Value} (h:cK w n b bk ba bd bs bv G) (hg:bS G m) (hu:ja w u e) (hse:ly e) (hl:G.kept.length<=100000) (hseq:∀a i,0<=getM m.ctx a i/\getM m.ctx a i<=4294967296)
   (hno:(dE m e).2.1=false):
   Calls Tryz.prog 23 #[.pointer (some ⟨b,0,none⟩),u] w fun e' w'=>e'= .returned (.tuple #[.bool false, .int .i64 (dE m e).2.2])/\(dE m e).1=m/\Below w.heap.size w w':=by
 obtain⟨v,hu,hd⟩:=hu;obtain⟨cs,hcs⟩:∃cs:Array Value,Hid ((cN e v).toArray=cs):=⟨_,rfl⟩;have hu':u= .agg cs:=by rw[hu,<-(show(cN e v).toArray=cs from hcs)];rfl
 have hev0:ja w (.agg cs) e:=⟨v,by rw[<-hu',hu],hd⟩;clear hu;subst hu';obtain⟨SZ,mm,hSZ,hsz,hm⟩:=uE;obtain⟨W,hW⟩:∃W,w.alloc (.cells cs 78)=W:=⟨_,rfl⟩;have hb:Below w.heap.size w W:=by rw[<-hW];exact(Below.refl w.heap.size w).alloc (Ad _) _
 have hs:W.heap.size=w.heap.size+1:=by rw[<-hW];simp
 have hr:W.rangeAt w.heap.size 0 (cN e v):=by rw[<-hW,<-(show(cN e v).toArray=cs from hcs)];exact ug w e v
 have h0:=h.below hb;have hright:=G0 (hev0.cells (dS hb)) hse;obtain⟨k0,k1,k2,k6,k18,kl⟩:=fc hr hcs hm;have hA:(∃z,dE m e=(m,false,z)):=by
   grind [dE]
 obtain⟨z,hA⟩:=hA;by_cases q1:fw e=false
 . have hz:z=1:=by have:dE m e=(m,false,1):=by{unfold dE;rw[Al q1]};rw[this]at hA;grind
   rw[q1]at hright;rw[hA,hz];go_enter Tryz.func23,Tryz.ntmps23
   go_wp2_with (go_at_call 48;refine hright.mono ?_;rintro e' w1 ⟨rfl,hb1⟩;have hbf:=hb.trans (hb1.mono (by omega)))
   refine bodyPost_ret (results_tmp2 rfl _ _ _) rfl ?_;simp_all
 have q1':fw e=true:=by grind
 rw[q1']at hright;letI:Inhabited aF:=⟨⟨True,#[]⟩⟩
 have hdot:fg e.dot=true:=xb q1';have hhas0:decide (e.dot.seq<=oV G.vec e.dot.dev e.dot.inc)=eK m.ctx e.dot:=by
   unfold eK;rw[hdot,Bq,ed,hg.vec]
 by_cases q2:eK m.ctx e.dot=true
 . have hz:z=0:=by have:dE m e=(m,false,0):=by{unfold dE;rw[An q1,Al q2]};rw[this]at hA;grind
   have hhas:=hhas0.trans q2;rw[hA,hz];clear q1 q1' hhas0 q2 hA hno hev0 h hse;go_enter Tryz.func23,Tryz.ntmps23
   go_wp2_with (go_at_call 48;refine hright.mono ?_;rintro e' w1 ⟨rfl,hb1⟩;have hbf1:=hb.trans (hb1.mono (by omega));have h1:=h0.below hb1;have r1:=fT (dS hb1) hr;obtain⟨a0,a1,a2,a6,a18,al⟩:=fc r1 hcs hm;have a3:=h1.c3;have h1d:=h1.below (Below.refl w1.heap.size w1).drew;have hv1:=yZ h1d.cv h1d.mv e.dot.dev e.dot.inc e.dot.seq hdot;rw[hhas]at hv1;clear k0 k1 k2 k6 k18 kl h1d)
   go_region_held3 (fun w'=>w'.cell? ⟨b,3,none⟩=some (.pointer (some ⟨bs,0,none⟩))/\w'.cell? ⟨w.heap.size,0,none⟩=some (.int .i64 e.dot.dev)/\w'.cell? ⟨w.heap.size,1,none⟩=some (.int .i64 e.dot.inc)/\w'.cell? ⟨w.heap.size,2,none⟩=some (.int .i64 e.dot.seq)) (simp[*]) (first|(go_at_call 49;refine hv1.mono ?_;rintro e' w2 ⟨rfl,hb2⟩;have hbf2:=hbf1.drew.trans (hb2.mono (by have:=hbf1.size;simp_all));have h2:=(h1.below (Below.refl w1.heap.size w1).drew).below hb2;have r2:=fT (dS hb2) (fT (dS (Below.refl w1.heap.size w1).drew) r1);obtain⟨b0,b1,b2,b6,b18,bl⟩:=fc r2 hcs hm;have b3:=h2.c3;have h2d:=h2.below (Below.refl w2.heap.size w2).drew;have hv2:=l4 h2d.cv h2d.mv e.dot.dev e.dot.inc;rw[show(aB G.vec (e.dot.dev,e.dot.inc)).getD 0=getM m.ctx e.dot.dev e.dot.inc from hg.vec _ _]at hv2;clear a0 a1 a2 a6 a18 al a3 hv1 h2d))
   all_goals go_wp2
   all_goals refine bodyPost_ret (results_tmp2 rfl _ _ _) rfl ?_
   simp_all
 have hhas:=hhas0.trans (by simpa using q2);by_cases q3:getM m.ctx e.dot.dev e.dot.inc+1≠e.dot.seq
 . have hz:z=6:=by have:dE m e=(m,false,6):=by{unfold dE;rw[An q1,An q2,Al q3]};rw[this]at hA;grind
   have hwr:IntKind.i64.wrap (getM m.ctx e.dot.dev e.dot.inc+1)=getM m.ctx e.dot.dev e.dot.inc+1:=IntWalk.i64_in _ (by have:=hseq e.dot.dev e.dot.inc;omega);have hne:(e.dot.seq !=getM m.ctx e.dot.dev e.dot.inc+1)=true:=by grind
   rw[hA,hz];clear q1 q1' hhas0 q2 hA hno hev0 h hse q3;go_enter Tryz.func23,Tryz.ntmps23
   go_wp2_with (go_at_call 48;refine hright.mono ?_;rintro e' w1 ⟨rfl,hb1⟩;have hbf1:=hb.trans (hb1.mono (by omega));have h1:=h0.below hb1;have r1:=fT (dS hb1) hr;obtain⟨a0,a1,a2,a6,a18,al⟩:=fc r1 hcs hm;have a3:=h1.c3;have h1d:=h1.below (Below.refl w1.heap.size w1).drew;have hv1:=yZ h1d.cv h1d.mv e.dot.dev e.dot.inc e.dot.seq hdot;rw[hhas]at hv1;clear k0 k1 k2 k6 k18 kl h1d)
   go_region_held3 (fun w'=>w'.cell? ⟨b,3,none⟩=some (.pointer (some ⟨bs,0,none⟩))/\w'.cell? ⟨w.heap.size,0,none⟩=some (.int .i64 e.dot.dev)/\w'.cell? ⟨w.heap.size,1,none⟩=some (.int .i64 e.dot.inc)/\w'.cell? ⟨w.heap.size,2,none⟩=some (.int .i64 e.dot.seq)) (simp[*]) (first|(go_at_call 49;refine hv1.mono ?_;rintro e' w2 ⟨rfl,hb2⟩;have hbf2:=hbf1.drew.trans (hb2.mono (by have:=hbf1.size;simp_all));have h2:=(h1.below (Below.refl w1.heap.size w1).drew).below hb2;have r2:=fT (dS hb2) (fT (dS (Below.refl w1.heap.size w1).drew) r1);obtain⟨b0,b1,b2,b6,b18,bl⟩:=fc r2 hcs hm;have b3:=h2.c3;have h2d:=h2.below (Below.refl w2.heap.size w2).drew;have hv2:=l4 h2d.cv h2d.mv e.dot.dev e.dot.inc;rw[show(aB G.vec (e.dot.dev,e.dot.inc)).getD 0=getM m.ctx e.dot.dev e.dot.inc from hg.vec _ _]at hv2;clear a0 a1 a2 a6 a18 al a3 hv1 h2d))
   all_goals go_wp2_with fail
   all_goals go_region_held3 (fun w'=>w'.cell? ⟨b,3,none⟩=some (.pointer (some ⟨bs,0,none⟩))/\w'.cell? ⟨w.heap.size,0,none⟩=some (.int .i64 e.dot.dev)/\w'.cell? ⟨w.heap.size,1,none⟩=some (.int .i64 e.dot.inc)/\w'.cell? ⟨w.heap.size,2,none⟩=some (.int .i64 e.dot.seq)) (simp[*]) (first|(go_at_call 50;refine hv2.mono ?_;rintro e' w3 ⟨rfl,hb3⟩;have hbf3:=hbf2.drew.trans (hb3.mono (by have:=hbf2.size;simp_all));have h3:=(h2.below (Below.refl w2.heap.size w2).drew).below hb3;have hv3:=Tryz.room h3 hl;  have r3:=fT (dS hb3) (fT (dS (Below.refl w2.heap.size w2).drew) r2);obtain⟨c0,c1,c2,c6,c18,cl⟩:=fc r3 hcs hm;have c3:=h3.c3;clear b0 b1 b2 b6 b18 bl b3 hv2))
   all_goals go_wp2
   all_goals refine bodyPost_ret (results_tmp2 rfl _ _ _) rfl ?_
   simp_all
 have q3':getM m.ctx e.dot.dev e.dot.inc+1=e.dot.seq:=by omega
 have q4:2048<=m.kept.length:=by
   grind [dE]
 have hz:z=9:=by have:dE m e=(m,false,9):=by{unfold dE;rw[An q1,An q2,An q3,Al q4]};rw[this]at hA;grind
 have hwr:IntKind.i64.wrap (getM m.ctx e.dot.dev e.dot.inc+1)=getM m.ctx e.dot.dev e.dot.inc+1:=IntWalk.i64_in _ (by have:=hseq e.dot.dev e.dot.inc;omega);have hne:(e.dot.seq !=getM m.ctx e.dot.dev e.dot.inc+1)=false:=by rw[q3'];simp
 have hroom:decide (1<=2048 - (G.kept.length:Int))=false:=A5 (by rw[hg.len];omega);rw[hA,hz];clear q1 q1' hhas0 q2 hA hno hev0 h hse q3 q3' q4;go_enter Tryz.func23,Tryz.ntmps23
 go_wp2_with (go_at_call 48;refine hright.mono ?_;rintro e' w1 ⟨rfl,hb1⟩;have hbf1:=hb.trans (hb1.mono (by omega));have h1:=h0.below hb1;have r1:=fT (dS hb1) hr;obtain⟨a0,a1,a2,a6,a18,al⟩:=fc r1 hcs hm;have a3:=h1.c3;have h1d:=h1.below (Below.refl w1.heap.size w1).drew;have hv1:=yZ h1d.cv h1d.mv e.dot.dev e.dot.inc e.dot.seq hdot;rw[hhas]at hv1;clear k0 k1 k2 k6 k18 kl h1d)
 go_region_held3 (fun w'=>w'.cell? ⟨b,3,none⟩=some (.pointer (some ⟨bs,0,none⟩))/\w'.cell? ⟨w.heap.size,0,none⟩=some (.int .i64 e.dot.dev)/\w'.cell? ⟨w.heap.size,1,none⟩=some (.int .i64 e.dot.inc)/\w'.cell? ⟨w.heap.size,2,none⟩=some (.int .i64 e.dot.seq)) (simp[*]) (first|(go_at_call 49;refine hv1.mono ?_;rintro e' w2 ⟨rfl,hb2⟩;have hbf2:=hbf1.drew.trans (hb2.mono (by have:=hbf1.size;simp_all));have h2:=(h1.below (Below.refl w1.heap.size w1).drew).below hb2;have r2:=fT (dS hb2) (fT (dS (Below.refl w1.heap.size w1).drew) r1);obtain⟨b0,b1,b2,b6,b18,bl⟩:=fc r2 hcs hm;have b3:=h2.c3;have h2d:=h2.below (Below.refl w2.heap.size w2).drew;have hv2:=l4 h2d.cv h2d.mv e.dot.dev e.dot.inc;rw[show(aB G.vec (e.dot.dev,e.dot.inc)).getD 0=getM m.ctx e.dot.dev e.dot.inc from hg.vec _ _]at hv2;clear a0 a1 a2 a6 a18 al a3 hv1 h2d))
 all_goals go_wp2_with fail
 all_goals go_region_held3 (fun w'=>w'.cell? ⟨b,3,none⟩=some (.pointer (some ⟨bs,0,none⟩))/\w'.cell? ⟨w.heap.size,0,none⟩=some (.int .i64 e.dot.dev)/\w'.cell? ⟨w.heap.size,1,none⟩=some (.int .i64 e.dot.inc)/\w'.cell? ⟨w.heap.size,2,none⟩=some (.int .i64 e.dot.seq)) (simp[*]) (first|(go_at_call 50;refine hv2.mono ?_;rintro e' w3 ⟨rfl,hb3⟩;have hbf3:=hbf2.drew.trans (hb3.mono (by have:=hbf2.size;simp_all));have h3:=(h2.below (Below.refl w2.heap.size w2).drew).below hb3;have hv3:=Tryz.room h3 hl;rw[hroom]at hv3;have r3:=fT (dS hb3) (fT (dS (Below.refl w2.heap.size w2).drew) r2);obtain⟨c0,c1,c2,c6,c18,cl⟩:=fc r3 hcs hm;have c3:=h3.c3;clear b0 b1 b2 b6 b18 bl b3 hv2))
 all_goals go_wp2_with (go_at_call 51;refine hv3.mono ?_;rintro e' w4 ⟨rfl,rfl⟩)
 all_goals refine bodyPost_ret (results_tmp2 rfl _ _ _) rfl ?_
 simp_all
theorem VQ {bk ba bd bv i j:Nat} {G:bg} {k:aD} {L:DL} {K:List (aq×(Value×ae))} {V:List ((Int×Int)×Int)} {N:Nat} (hal:aB G.alive k=none) (hj:N<=j) (hi:i<N) (h:dR bk ba bd bv ⟨K,cq G.alive k (j,L),G.dead,V⟩ i):dR bk ba bd bv G i:=by
 grind [dR,cq]
theorem VR {bk ba bd bv i j:Nat} {G:bg} {k:aD} {L L':DL} {K:List (aq×(Value×ae))} {V:List ((Int×Int)×Int)} (hn:(G.alive.map (·.1)).Nodup) (hal:aB G.alive k=some (j,L)) (h:dR bk ba bd bv ⟨K,cq G.alive k (j,L'),G.dead,V⟩ i):dR bk ba bd bv G i:=by
 grind [dR,uU]
theorem SJ {G:bg} (hn:(G.alive.map (·.1)).Nodup) (d:aq) {j:Nat} (h:j∈(kK G d).alive.map (·.2.1)):j∈G.alive.map (·.2.1):=by
 unfold kK at h;grind [oe,di,uU]
theorem Jk {G:bg} {l:List aq} {k:Nat} (h:k<l.length):kU G (l.take (k+1))=kK (kU G (l.take k)) l[k]:=by
 grind [kU,List.take_succ_eq_append_getElem]
theorem OW {w:World} {n b bk ba bd bs bv:Nat} {G:bg} {m:aN} {e:ae} {u:Value} (h:cK w n b bk ba bd bs bv G) (hg:bS G m) (hn:n<=w.heap.size) (hu:ja w u e) (hse:ly e) (hover:e.over.length<=100000) (hseq:∀a i,0<=getM m.ctx a i/\getM m.ctx a i<=4294967296)
  (q1:fw e=true) (q2:eK m.ctx e.dot=false) (q3:getM m.ctx e.dot.dev e.dot.inc+1=e.dot.seq) (q4:¬2048<=m.kept.length):
  Calls Tryz.prog 23 #[.pointer (some ⟨b,0,none⟩),u] w fun e' w'=>e'= .returned (.tuple #[.bool true, .int .i64 0])/\eT (dR bk ba bd bv G) w w'/\ ∃G',cK w' n b bk ba bd bs bv G'/\bS G' (dE m e).1:=by
 obtain⟨v,hu,hd⟩:=hu;obtain⟨va,vn,vc,hve⟩:=hd.one;obtain⟨cs,hcs⟩:∃cs:Array Value,Hid ((cN e v).toArray=cs):=⟨_,rfl⟩;have hu':u= .agg cs:=by rw[hu,<-(show(cN e v).toArray=cs from hcs)];rfl
 have hev0:ja w (.agg cs) e:=⟨v,by rw[<-hu',hu],hd⟩;clear hu;subst hu';obtain⟨SZ,mm,hSZ,hsz,hm⟩:=uE;obtain⟨W,hW⟩:∃W,w.alloc (.cells cs 78)=W:=⟨_,rfl⟩;have hb:Below w.heap.size w W:=by rw[<-hW];exact(Below.refl w.heap.size w).alloc (Ad _) _
 have hs:W.heap.size=w.heap.size+1:=by rw[<-hW];simp
 have hr:W.rangeAt w.heap.size 0 (cN e v):=by rw[<-hW,<-(show(cN e v).toArray=cs from hcs)];exact ug w e v
 have h0:=h.below hb;have hright:=G0 (hev0.cells (dS hb)) hse;obtain⟨k0,k1,k2,k6,k18,kl⟩:=fc hr hcs hm;rw[q1]at hright;letI:Inhabited aF:=⟨⟨True,#[]⟩⟩
 have hdot:fg e.dot=true:=xb q1;have hhas:decide (e.dot.seq<=oV G.vec e.dot.dev e.dot.inc)=false:=by
  have hh:decide (e.dot.seq<=oV G.vec e.dot.dev e.dot.inc)=eK m.ctx e.dot:=by
   unfold eK;rw[hdot,Bq,ed,hg.vec]
  rw[hh,q2]
 have hwr:IntKind.i64.wrap (getM m.ctx e.dot.dev e.dot.inc+1)=getM m.ctx e.dot.dev e.dot.inc+1:=IntWalk.i64_in _ (by have:=hseq e.dot.dev e.dot.inc;omega);have hne:(e.dot.seq !=getM m.ctx e.dot.dev e.dot.inc+1)=false:=by rw[q3];simp
 have hl:G.kept.length<=100000:=by rw[hg.len];omega
 have hroom:decide (1<=2048 - (G.kept.length:Int))=true:=B7 (by rw[hg.len];omega);have hprev:(aB G.vec (e.dot.dev,e.dot.inc)).getD 0=e.dot.seq - 1:=by
  have:=hg.vec e.dot.dev e.dot.inc;grind [oV]
 have hfin:=fun(v:Value) (nb:Nat)=>(hg.apply v nb q1 q2 q3 q4).1
 have hfinal:Hid (∀(v:Value) (nb:Nat),bS (qT G e v nb) (dE m e).1):=hfin;clear hfin;have hgv:=hg.vec;clear q1 q2 q3 q4 hg;go_enter Tryz.func23,Tryz.ntmps23
 go_wp2_with (go_at_call 48;refine hright.mono ?_;rintro e' w1 ⟨rfl,hb1⟩;have hbf1:=hb.trans (hb1.mono (by omega));have h1:=h0.below hb1;have r1:=fT (dS hb1) hr;obtain⟨a0,a1,a2,a6,a18,al⟩:=fc r1 hcs hm;have a3:=h1.c3;have h1d:=h1.below (Below.refl w1.heap.size w1).drew;have hv1:=yZ h1d.cv h1d.mv e.dot.dev e.dot.inc e.dot.seq hdot;rw[hhas]at hv1;have hev1:=(hev0.cells (dS hb)).cells (dS hb1);clear k0 k1 k2 k6 k18 kl h1d)
 go_region_held3 (fun w'=>w'.cell? ⟨b,3,none⟩=some (.pointer (some ⟨bs,0,none⟩))/\w'.cell? ⟨w.heap.size,0,none⟩=some (.int .i64 e.dot.dev)/\w'.cell? ⟨w.heap.size,1,none⟩=some (.int .i64 e.dot.inc)/\w'.cell? ⟨w.heap.size,2,none⟩=some (.int .i64 e.dot.seq)) (simp[*]) (first|(go_at_call 49;refine hv1.mono ?_;rintro e' w2 ⟨rfl,hb2⟩;have hbf2:=hbf1.drew.trans (hb2.mono (by have:=hbf1.size;simp_all));have h2:=(h1.below (Below.refl w1.heap.size w1).drew).below hb2;have r2:=fT (dS hb2) (fT (dS (Below.refl w1.heap.size w1).drew) r1);obtain⟨b0,b1,b2,b6,b18,bl⟩:=fc r2 hcs hm;have b3:=h2.c3;have h2d:=h2.below (Below.refl w2.heap.size w2).drew;have hv2:=l4 h2d.cv h2d.mv e.dot.dev e.dot.inc;rw[show(aB G.vec (e.dot.dev,e.dot.inc)).getD 0=getM m.ctx e.dot.dev e.dot.inc from hgv _ _]at hv2;have hev2:ja w2 (.agg cs) e:=hev1.cells (fun bb arr t fz hx=>dS hb2 bb arr t fz hx);clear a0 a1 a2 a6 a18 al a3 hv1 h2d))
 all_goals go_wp2_with fail
 all_goals go_region_held3 (fun w'=>w'.cell? ⟨b,3,none⟩=some (.pointer (some ⟨bs,0,none⟩))/\w'.cell? ⟨w.heap.size,0,none⟩=some (.int .i64 e.dot.dev)/\w'.cell? ⟨w.heap.size,1,none⟩=some (.int .i64 e.dot.inc)/\w'.cell? ⟨w.heap.size,2,none⟩=some (.int .i64 e.dot.seq)) (simp[*]) (first|(go_at_call 50;refine hv2.mono ?_;rintro e' w3 ⟨rfl,hb3⟩;have hbf3:=hbf2.drew.trans (hb3.mono (by have:=hbf2.size;simp_all));have h3:=(h2.below (Below.refl w2.heap.size w2).drew).below hb3;have hv3:=Tryz.room h3 hl;rw[hroom]at hv3;have r3:=fT (dS hb3) (fT (dS (Below.refl w2.heap.size w2).drew) r2);obtain⟨c0,c1,c2,c6,c18,cl⟩:=fc r3 hcs hm;have c3:=h3.c3;have hev3:ja w3 (.agg cs) e:=hev2.cells (fun bb arr t fz hx=>dS hb3 bb arr t fz hx);clear b0 b1 b2 b6 b18 bl b3 hv2))
 all_goals go_wp2_with (go_at_call 51;refine hv3.mono ?_;rintro e' w4 ⟨rfl,rfl⟩;have h3d:=h3.below (Below.refl w4.heap.size w4).drew;have hv4:=PZ h3d.cv h3d.mv e.dot.dev e.dot.inc e.dot.seq (fun hh=>wv h3d.cv (by rw[hh];exact ay.isMap h3d.mv)) hdot hprev;clear hv3)
 all_goals go_region_held3 (fun w'=>w'.cell? ⟨b,3,none⟩=some (.pointer (some ⟨bs,0,none⟩))/\w'.cell? ⟨w.heap.size,0,none⟩=some (.int .i64 e.dot.dev)/\w'.cell? ⟨w.heap.size,1,none⟩=some (.int .i64 e.dot.inc)/\w'.cell? ⟨w.heap.size,2,none⟩=some (.int .i64 e.dot.seq)) (simp[*]) (first|(go_at_call 52;refine hv4.mono ?_;rintro e' w5 ⟨rfl,hb5,hmv5⟩;have h5:=h3d.ql hb5 hmv5;have hbut5:eT (dR bk ba bd bv G) w w5:=(lZ hbf3.drew).trans (hb5.mono fun k _ hk=>by grind [dR]);have hc5:jk w4.drew w5:=hb5.cells (fun k hk=>by(rw[hk];exact ay.isMap h3d.mv));have r5:=fT hc5 (fT (dS (Below.refl w4.heap.size w4).drew) r3);obtain⟨d0,d1,d2,d6,d18,dl⟩:=fc r5 hcs hm;have d3:=h5.c3;have e0:=h5.c0;obtain⟨-, -, -, -, -,dl'⟩:=fc (fT (dS (Below.refl w5.heap.size w5).drew) r5) hcs hm;have hev5:ja w5.drew (.agg cs) e:=hev3.cells (fun bb arr t fz hx=>hc5 bb arr t fz hx);have hv5:=Qq hev5 hover;clear c0 c1 c2 c6 c18 cl c3 hv4))
 all_goals go_wp2_with fail
 all_goals go_region_held3 (fun w'=>w'.cell? ⟨b,0,none⟩=some (.map (some bk))/\w'.cell? ⟨w.heap.size,0,none⟩=some (.int .i64 e.dot.dev)/\w'.cell? ⟨w.heap.size,1,none⟩=some (.int .i64 e.dot.inc)/\w'.cell? ⟨w.heap.size,2,none⟩=some (.int .i64 e.dot.seq)/\(loadCellsFrom ⟨w.heap.size,0,none⟩ 0 mm #[]).run Tryz.prog w'= .ok cs w') (simp[*]) (first|(go_at_call 53;refine hv5.mono ?_;rintro e' w6 ⟨u',rfl,hev6,hb6⟩;have h6:=(h5.below (Below.refl w5.heap.size w5).drew).below hb6;have r6:=fT (dS hb6) (fT (dS (Below.refl w5.heap.size w5).drew) r5);obtain⟨f0,f1,f2,f6,f18,fl⟩:=fc r6 hcs hm;have f3:=h6.c0;obtain⟨es,clk,hup,hmu⟩:=h6.iC.update iR Tryz.underlying102 e.dot (u',e);rw[show bJ e.dot= .agg #[.int .i64 e.dot.dev, .int .i64 e.dot.inc, .int .i64 e.dot.seq]from rfl,show qZ (u',e)=u' from rfl]at hup;have h7:=h6.pn (x:=(u',e)) hev6 hmu;have hbut6:eT (dR bk ba bd bv G) w w6:=hbut5.drew.trans (lZ hb6);have hbut7:eT (dR bk ba bd bv G) w (World.aU w6 bk (.map es clk)):=hbut6.trans (xr (ay.isMap h6.iC) (by grind [dR]));have r7:(World.aU w6 bk (.map es clk)).rangeAt w.heap.size 0 (cN e v):=fT (I8 (ay.isMap h6.iC)) r6;obtain⟨W7,hW7⟩:∃W7,World.aU w6 bk (.map es clk)=W7:=⟨_,rfl⟩;rw[hW7]at hup h7 hbut7 r7;obtain⟨g0,g1,g2,g6,g18,gl⟩:=fc r7 hcs hm;have g3:=h7.c0;clear d0 d1 d2 d6 d18 dl d3 e0 hv5 hmu))
 rename_i Q0 K0 hK0 hS0;clear hS0;refine hK0 _ _ ?_;apply wp_seq_k;intro K1 hK1;go_cut []from 6 (fun wc=>eT (dR bk ba bd bv G) w wc/\(∃nb,cK wc n b bk ba bd bs bv (iL (gQ G e u') e nb)/\ ∀i,i<w.heap.size->dR bk ba bd bv (iL (gQ G e u') e nb) i->dR bk ba bd bv G i)/\wc.rangeAt w.heap.size 0 (cN e v))
 case rest=>
  obtain⟨hbutc,⟨nb,hc,hmc⟩,rc⟩:=hcut;have hmapsW:=h.maps;obtain⟨p0,p1,p2,p6,p18,pl⟩:=fc rc hcs hm;rw[hve]at p18;have hlenv:vn=e.over.length:=by
   rw[hve]at hd;rcases hd with⟨h0,a,c,hh⟩|⟨_,_,_,_,_,_,hh,_⟩
   all_goals grind
  subst hlenv;clear h h0 hr hright hev0;go_wp2;go_loopw [72] (fun i wr=>∃k:Nat,k<=e.over.length/\i= .int .i64 k/\eT (dR bk ba bd bv G) w wr/\cK wr n b bk ba bd bs bv (kU (iL (gQ G e u') e nb) (e.over.take k))/\ ∀i,i<w.heap.size->dR bk ba bd bv (kU (iL (gQ G e u') e nb) (e.over.take k)) i->dR bk ba bd bv G i)
   (fun i _=>e.over.length - (intOf i).toNat)
  case atStart=>exact⟨0,Au _,rfl,hbutc,by rw[DQ];exact hc,by rw[DQ];exact hmc⟩
  case round=>
   obtain⟨k,hk,rfl,hbr,hor,hmr⟩:=hrel;by_cases hlt:k<e.over.length
   . have hstay:jk w wr:=hbr.cells hmapsW;rw[hve]at hd;rcases hd with⟨h0,_⟩|⟨ob,off,cap,arr,ty,fz,hh,hob,hcap,hlen,hcells⟩
     . rw[h0]at hlt;grind
     . simp only[Value.slice.injEq]at hh;obtain⟨rfl, -,rfl⟩:=hh;obtain⟨x0,x1,x2⟩:=hcells k hlt;have hobr:=hstay _ _ _ _ hob;have cell:∀{j:Nat} {u:Value},arr[j]? =some u->wr.cell? ⟨ob,j,none⟩=some u:=fun hx=>by
        grind [World.cell?]
       have c0:=cell x0;have c1:=cell x1;have c2:=cell x2;have hba:Below wr.heap.size wr (wr.alloc (.cells #[.int .i64 e.over[k].dev, .int .i64 e.over[k].inc, .int .i64 e.over[k].seq] 70)):=(Below.refl wr.heap.size wr).alloc (Ad _) _;have hkill:=Tryz.kill (hor.below hba) e.over[k];have hnda:=hor.ma.nd;have hwrs:=hbr.size;rw[show bJ e.over[k]= .agg #[.int .i64 e.over[k].dev, .int .i64 e.over[k].inc, .int .i64 e.over[k].seq]from rfl]at hkill;clear hcells x0 x1 x2 cell hob hobr hstay hlen rc hc hbutc p0 p1 p2 p6 pl p18;go_wp2_with (go_at_call 56;refine hkill.mono ?_;rintro e' w9 ⟨rfl,hb9,h9⟩;have R1:eT (dR bk ba bd bv G) w w9:=(hbr.more (lZ (S:=fun _=>False) hba) (fun _ _ h=>h.elim)).more hb9 (fun i hi hh=>hmr i hi hh);rw[<-Jk hlt]at h9)
       go_roundw
       case rel=>
        refine⟨k+1,hlt,by go_num,R1,h9,fun i hi hh=>hmr i hi ?_⟩;rw[Jk hlt]at hh;grind [dR,SJ]
       grind [intOf]
   . have hkl:k=e.over.length:=by omega
     subst hkl;rw[A8]at hor;go_wp2;refine bodyPost_ret (results_tmp2 rfl _ _ _) rfl ?_;exact⟨rfl,hbr,_,hor,(show ∀(v:Value) (nb:Nat),bS (qT G e v nb) (dE m e).1 from hfinal) u' nb⟩
 case first=>
  have h7':cK W7 n b bk ba bd bs bv (gQ G e u'):=h7;have hencv:gT e v= .agg cs:=by rw[<-(show(cN e v).toArray=cs from hcs)];rfl
  by_cases kd:e.kind=1
  case neg=>
   have hL:iL (gQ G e u') e 0=gQ G e u':=by unfold iL;rw[An (fun hh=>kd hh.1)]
   go_wp2;go_meet
   case rel=>exact⟨hbut7,⟨0,by rw[hL];exact⟨h7',fun _ _ hh=>hh⟩⟩,r7⟩
  case pos=>
   rw[kd]at g6;have hdead:=Tryz.dead h7' e.dot;rw[show bJ e.dot= .agg #[.int .i64 e.dot.dev, .int .i64 e.dot.inc, .int .i64 e.dot.seq]from rfl,show(gQ G e u').dead=G.dead from rfl]at hdead
   cases hdd:aB G.dead e.dot with
   | some z=>
     rw[hdd]at hdead;have hL:iL (gQ G e u') e 0=gQ G e u':=by
       unfold iL;rw[An (fun hh=>by have:=hh.2;rw[show(gQ G e u').dead=G.dead from rfl,hdd]at this;cases this)]
     go_wp2_with (go_at_call 54;refine hdead.mono ?_;rintro e' w8 ⟨rfl,hb8⟩;have h8:=h7'.below hb8;have r8:=fT (dS hb8) r7;have hbut8:=hbut7.more (lZ (S:=fun _=>False) hb8) (fun _ _ h=>h.elim))
     go_meet
     case rel=>exact⟨hbut8,⟨0,by rw[hL];exact⟨h8,fun _ _ hh=>hh⟩⟩,r8⟩
   | none=>
     rw[hdd]at hdead
     cases hal:aB G.alive e.key with
     | none=>
       have hL:∀nb,iL (gQ G e u') e nb={gQ G e u' with alive:=cq G.alive e.key (nb,[(e.dot,1)])}:=fun nb=>by
        unfold iL pW;rw[Al ⟨kd,hdd⟩,show(gQ G e u').alive=G.alive from rfl,hal]
       go_wp2_with (first
        |(go_at_call 54;refine hdead.mono ?_;rintro e' w8 ⟨rfl,hb8⟩;have h8:=h7'.below hb8;have r8:=fT (dS hb8) r7;have hbut8:=hbut7.more (lZ (S:=fun _=>False) hb8) (fun _ _ h=>h.elim);obtain⟨j0,j1,j2,j6,zm,jl⟩:=fc r8 hcs hm;have hlive:=OX h8 (by have:=hbut8.size;omega) e v hal;rw[hencv]at hlive)
        |(go_at_call 55;refine hlive.mono ?_;rintro e' w9 ⟨rfl,hb9,nb,hnb,h9⟩;have r9:=fT (hb9.cells h8.maps) r8;have hbut9:eT (dR bk ba bd bv G) w w9:=hbut8.trans hb9))
       go_meet
       case rel=>exact⟨hbut9,⟨nb,by rw[hL];exact⟨h9,fun i hi hh=>VQ hal (by have:=hbut8.size;omega) hi hh⟩⟩,r9⟩
     | some x=>
       obtain⟨jb,L⟩:=x;have hL:iL (gQ G e u') e 0={gQ G e u' with alive:=cq G.alive e.key (jb,cq L e.dot 1)}:=by
        unfold iL pW;rw[Al ⟨kd,hdd⟩,show(gQ G e u').alive=G.alive from rfl,hal]
       go_wp2_with (first
        |(go_at_call 54;refine hdead.mono ?_;rintro e' w8 ⟨rfl,hb8⟩;have h8:=h7'.below hb8;have r8:=fT (dS hb8) r7;have hbut8:=hbut7.more (lZ (S:=fun _=>False) hb8) (fun _ _ h=>h.elim);obtain⟨j0,j1,j2,j6,zm,jl⟩:=fc r8 hcs hm;have hlive:=OY h8 e v hal;rw[hencv]at hlive)
        |(go_at_call 55;refine hlive.mono ?_;rintro e' w9 ⟨rfl,hb9,h9⟩;have r9:=fT (hb9.cells h8.maps) r8;have hbut9:eT (dR bk ba bd bv G) w w9:=hbut8.trans hb9))
       go_meet
       case rel=>exact⟨hbut9,⟨0,by rw[hL];exact⟨h9,fun i hi hh=>VR h.ma.nd hal hh⟩⟩,r9⟩
end Go.Proofs
namespace Go.Proofs
open Go Go.Am Go.RowKit Go.Sy Go.Gm Go.Maps Go.Sort Go.Shelf
section
inductive Flat:SV->Prop
 |bool (b:Bool):Flat (.bool b)
 |int (k:IntKind) (n:Int):Flat (.int k n)
 |str (s:List UInt8):Flat (.str s)
 |wp (a:Addr):Flat (.wp a)
 |bh {X:Type} {L:List X} {enc:X->List SV} (h:∀(i:Nat) x (j:Nat) v,L[i]? =some x->(enc x)[j]? =some v->Flat v):Flat (.bh X L enc)
theorem Ux (l:List aq):Flat (cL l):= .bh fun i x j v _ hv=>by
 have hj:j<3:=(Ae.1 hv).1;match j,hj with
 |0,_|1,_|2,_=>cases hv;exact .int _ _
theorem KP (l:List ae):Flat (dG l):= .bh fun i x j v _ hv=>by
 have hj:j<19:=(Ae.1 hv).1;match j,hj with
 |0,_|1,_|2,_|3,_|4,_|5,_|6,_|15,_|16,_|17,_=>cases hv;exact .int _ _
 |7,_|8,_|9,_|10,_=>cases hv;exact .str _
 |11,_|12,_|13,_|14,_=>cases hv;exact .bool _
 |18,_=>cases hv;exact Ux _
section
variable [Inhabited aF] {tab:bm} {w:World} {p:Nat->Prop} {g:Bool}
theorem TM {n:Nat} (a:Option Addr) (c:Nat):dK n (.slice a 0 c)= .nils\/dK n (.slice a 0 c)= .raw (.slice a 0 c):=by
 unfold dK;split<;>simp_all
theorem MH {s:SV} (hf:Flat s):∀{v:Value},Rd w p g s v->aO (bQ tab w).get s (dK w.heap.size v):=by
 induction hf with
 |bool b=>intro v h;cases h;exact .bool b
 |int k n=>intro v h;cases h;exact .int k n
 |str s=>intro v h;cases h;exact .str s
 |wp a=>intro v h;cases h;exact .wp a
 | @bh X L enc hfl ih=>
  intro v h
  cases h with
  |fu h0=>exact .bP h0 (.inl rfl)
  |bP h h0 a c=>
   rcases TM (n:=w.heap.size) a c with e|e
   . rw[e];exact .bP h0 (.inl rfl)
   . rw[e];exact .bP h0 (.inr (.inr ⟨_,_,rfl⟩))
  |bh b off cap arr e fz sz u hp hb hs hl hn hc h1 h2=>
   exact xo hb hs (fun x hx=>by obtain⟨i,hi,rfl⟩:=AG hx;exact hn i _ (Ag hi)) hl rfl hc (fun i x j v hx hv=>⟨u i j,h1 i x j v hx hv,ih i x j v hx hv (h2 i x j v hx hv)⟩)
theorem V1 {s:SV} (hf:Flat s) {v:Value} (h:Rd w p g s v) (n:Nat):dh n v=dK n v:=by
 cases hf<;>cases h<;>rfl
theorem YL {s:SV} (hf:Flat s) {v:Value} (h:Rd w p g s v):aO (bQ tab w).get s (dh w.heap.size v):=by
 rw[V1 hf h];grind [MH]
theorem sX {cs:List SV} (hf:∀c∈cs,Flat c) {v:Value} (h:Rd w p g (.agg cs) v):aO (bQ tab w).get (.agg cs) (dh w.heap.size v):=by
 cases h with
 | @agg cs vs h1 h2=>
  show aO _ (.agg cs) (.agg (vs.toList.map (dK w.heap.size)))
  refine .agg (by grind) fun i c v hc hv=>?_
  rw[AE]at hv
  cases hi:vs.toList[i]? with
  |none=>rw[hi]at hv;cases hv
  |some x=>
   rw[hi]at hv;grind [MH]
theorem MD {s:SV} {v:Value} (h:aO (bQ tab w).get s (dh w.heap.size v)):Rd w (fun _=>True) true s v:=by
 have:=uB (oU tab w (E:=⟨fun i=>i,fun _=>0⟩) (fun _ _=>rfl)) (fun _ _ h=>h) h;rwa [CB (fun _ _=>rfl)]at this
end
def fk (w:World) (l:List ae) (v:Value):Prop:=(l=[]/\ ∃a c,v= .slice a 0 c)\/ ∃b off cap arr e fz,v= .slice (some ⟨b,off,none⟩) l.length cap/\w.heap[b]? =some (.cells arr e fz)/\l.length<=cap/\off+l.length*19<=arr.size/\
 ∀i (h:i<l.length),∃u,(∀j,j<19->arr[off+i*19+j]? =(cN l[i] u)[j]?)/\cH w l[i].over u
theorem fk.cells {w w':World} (hc:jk w w') {l:List ae} {v:Value} (h:fk w l v):fk w' l v:=by
 rcases h with h|⟨b,off,cap,arr,e,fz,h1,h2,h3,h5,h4⟩
 . exact .inl h
 . exact .inr ⟨b,off,cap,arr,e,fz,h1,hc _ _ _ _ h2,h3,h5,fun i hi=>by obtain⟨u,k1,k2⟩:=h4 i hi;exact⟨u,k1,k2.cells hc⟩⟩
theorem fk.one {w:World} {l:List ae} {v:Value} (h:fk w l v):∃a c,v= .slice a l.length c:=by
 rcases h with⟨rfl,a,c,rfl⟩|⟨b,off,cap,arr,e,fz,rfl,_⟩<;>exact⟨_,_,rfl⟩
theorem M7 [Inhabited aF] {w:World} {p:Nat->Prop} {g:Bool} {l:List ae} {v:Value} (h:Rd w p g (dG l) v):fk w l v:=by
 unfold dG at h
 cases h with
 |fu h0=>exact .inl ⟨AP.1 h0,_,_,rfl⟩
 |bP h h0 a c=>exact .inl ⟨AP.1 h0,_,_,rfl⟩
 |bh b off cap arr e fz sz u hp hb hs hl hn hc h1 h2=>
  by_cases h0:l=[]
  . subst h0;exact .inl ⟨rfl,_,_,rfl⟩
  . have hsz:sz=19:=by
     obtain⟨x,l',rfl⟩:=B9 h0;exact(hn 0 x rfl).symm
    subst hsz;refine .inr ⟨b,off,cap,arr,e,fz,rfl,hb,hc,hl,fun i hi=>?_⟩;have hx:l[i]? =some l[i]:=Ag hi;have key:∀(j:Nat) s,(ae.enc l[i])[j]? =some s->arr[off+i*19+j]? =some (u i j)/\Rd w p g s (u i j):=fun j s hs=>⟨h1 i _ j s hx hs,h2 i _ j s hx hs⟩
    refine⟨u i 18,fun j hj=>?_,xH (key 18 _ rfl).2⟩;match j,hj with
    |0,_|1,_|2,_|3,_|4,_|5,_|6,_|15,_|16,_|17,_=>rw[(key _ _ rfl).1,gZ (key _ _ rfl).2];rfl
    |7,_|8,_|9,_|10,_=>rw[(key _ _ rfl).1,nO (key _ _ rfl).2];rfl
    |11,_|12,_|13,_|14,_=>rw[(key _ _ rfl).1,qK (key _ _ rfl).2];rfl
    |18,_=>rw[(key _ _ rfl).1];rfl
    |_+19,h=>omega
theorem MC [Inhabited aF] {w:World} {l:List ae} {v:Value} (h:fk w l v):Rd w (fun _=>True) true (dG l) v:=by
 unfold dG;rcases h with⟨rfl,a,c,rfl⟩|⟨b,off,cap,arr,e,fz,rfl,hb,hc,hl,hi⟩
 . exact .bP rfl rfl a c
 . refine .bh b off cap arr e fz 19 (fun i j=>(arr[off+i*19+j]?).getD (.bool false)) trivial hb (by decide) hl (fun _ _ _=>rfl) hc (fun i x j v hx hv=>?_) (fun i x j v hx hv=>?_)
   all_goals
     have hil:i<l.length:=(Ae.1 hx).1;have hxe:l[i]=x:=(Ae.1 hx).2;obtain⟨u,hcl,hd⟩:=hi i hil;rw[hxe]at hcl hd;have hj:j<19:=(Ae.1 hv).1;have hcl:=hcl j hj
   . rw[hcl,Ag (show j<(cN x u).length from hj)];rfl
   . show Rd w _ true v ((arr[off+i*19+j]?).getD _)
     rw[hcl];match j,hj with
     |0,_|1,_|2,_|3,_|4,_|5,_|6,_|15,_|16,_|17,_=>cases hv;exact .int _ _
     |7,_|8,_|9,_|10,_=>cases hv;exact .str _
     |11,_|12,_|13,_|14,_=>cases hv;exact .bool _
     |18,_=>cases hv;exact Zr hd
theorem P6 {w:World} {b off:Nat} {arr:Array Value} {e:TypeId} {fz:Nat×Nat} {x:ae} {u:Value} {i:Nat} (hb:w.heap[b]? =some (.cells arr e fz)) (hc:∀j,j<19->arr[off+i*19+j]? =(cN x u)[j]?):
  (loadCellsFrom ⟨b,off+i*19,none⟩ 0 19 #[]).run Tryz.prog w= .ok (cN x u).toArray w:=by
 have hl:(loadCells ⟨b,off+i*19,none⟩ (cN x u).length).run Tryz.prog w= .ok (cN x u).toArray w:=
  run_loadCells_list (P:=Tryz.prog) w ⟨b,off+i*19,none⟩ (cN x u) (fun j v hv=>by
   have hj:j<19:=(Ae.1 hv).1;rw[Addr.add_mid];grind [World.cell?])
 exact hl
theorem cK.heap {w w':World} {n b bk ba bd bs bv:Nat} {G:bg} (h:cK w n b bk ba bd bs bv G) (hs:∀i,i<w.heap.size->w'.heap[i]? =w.heap[i]?):cK w' n b bk ba bd bs bv G where
 c0:=ep h.c0 (hs _ (iI h.c0))
 c1:=ep h.c1 (hs _ (iI h.c1))
 c2:=ep h.c2 (hs _ (iI h.c2))
 c3:=ep h.c3 (hs _ (iI h.c3))
 cv:=ep h.cv (hs _ (iI h.cv))
 iC:=h.iC.same (hs _ h.iC.lt)
 ma:=h.ma.same (hs _ h.ma.lt)
 md:=h.md.same (hs _ h.md.lt)
 mv:=h.mv.same (hs _ h.mv.lt)
 mi:=fun x hx=>(h.mi x hx).same (hs _ (h.mi x hx).lt)
 nd:=h.nd
 low:=h.low
 ev:=fun x hx=>(h.ev x hx).cells fun c arr e fz hc=>by rw[hs _ (Ab.1 hc).1];exact hc
abbrev kW (w:World):Inhabited aF:=⟨⟨False,w.heap⟩⟩
theorem Ch {w:World} {n b bk ba bd bs bv:Nat} {G:bg} {m:aN} (h:cK w n b bk ba bd bs bv G) (g:bS G m) (ok:lK m) (hov:∀e∈m.kept,e.over.length<=100000): @cJ (kW w) b m:=
 letI:Inhabited aF:=kW w
 ⟨ok,hov,fun w' hw=>⟨n,bk,ba,bd,bs,bv,G,h.heap fun i hi=>hw i hi,g⟩⟩
theorem Tryz.apply {w:World} {n b bk ba bd bs bv:Nat} {G:bg} {m:aN} {e:ae} {u:Value} (h:cK w n b bk ba bd bs bv G) (hg:bS G m) (hn:n<=w.heap.size) (hu:ja w u e) (hse:ly e) (hover:e.over.length<=100000) (ok:lK m):
  Calls Tryz.prog 23 #[.pointer (some ⟨b,0,none⟩),u] w fun e' w'=>e'= .returned (.tuple #[.bool (dE m e).2.1, .int .i64 (dE m e).2.2])/\Below n w w'/\jk w w'/\ ∃G',cK w' n b bk ba bd bs bv G'/\bS G' (dE m e).1:=by
 letI:Inhabited aF:=⟨⟨True,#[]⟩⟩
 have hseq:=Ji ok.seq;have hl:G.kept.length<=100000:=by rw[hg.len];have:=ok.kept;omega
 cases hA:(dE m e).2.1 with
 |false=>
  refine(Ou h hg hu hse hl hseq hA).mono ?_;rintro e' w' ⟨rfl,he,hb⟩;exact⟨rfl,hb.mono hn,dS hb,G,h.below hb,by rw[he];exact hg⟩
 |true=>
  have hq:fw e=true/\eK m.ctx e.dot=false/\getM m.ctx e.dot.dev e.dot.inc+1=e.dot.seq/\ ¬2048<=m.kept.length/\(dE m e).2.2=0:=by
    grind [dE]
  obtain⟨q1,q2,q3,q4,q5⟩:=hq;rw[q5];refine(OW h hg hn hu hse hover hseq q1 q2 q3 q4).mono ?_;rintro e' w' ⟨rfl,hb,G',h1,h2⟩;have hmaps:=h.maps;refine⟨rfl,⟨hb.os,hb.tape,hb.output,hb.size,fun k hk=>hb.block k (by omega) fun hm=>?_⟩,fun c arr ty fz hc=>?_,G',h1,h2⟩
  . have:=h.low k (by grind [dR]);omega
  . rw[hb.block c (Ab.1 hc).1 fun hm=>?_]
    . exact hc
    . obtain⟨es,clk,he⟩:=hmaps c hm;rw[hc]at he;cases he
end
section
variable [Inhabited aF]
end
end Go.Proofs
