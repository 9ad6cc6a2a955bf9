/- Part 17: an evaluator, proved sound, and its use at this seat; no condition. -/
import Derived.WalkKit
import Derived.LoopTactic
import Derived.Deep.RegionHeld3
import Derived.Test.YtmfohfbdddlilaaGreatP11
import Derived.Test.YtmfohfbdddlilaaGreatP15
import Derived.Test.YtmfohfbdddlilaaGreatP16
set_option linter.unusedSimpArgs false
set_option linter.unusedVariables false
set_option linter.unusedSectionVars false
set_option linter.deprecated false
set_option maxRecDepth 100000
set_option maxHeartbeats 40000000
namespace Go.Proofs
open Go Go.Am Go.RowKit Go.Sy Go.Gm
theorem Wx {bk ba bd bv i j:Nat} {G:bn} {k:aA} {L:DL} {K:List (aj×(Value×ae))} {V:List ((Int×Int)×Int)} {N:Nat} (hal:aE G.alive k=none) (hj:N<=j) (hi:i<N) (h:eo bk ba bd bv ⟨K,cw G.alive k (j,L),G.dead,V⟩ i):eo bk ba bd bv G i:=by
 unfold eo at h⊢;rw[show(cw G.alive k (j,L)).map (fun x=>x.2.1)=G.alive.map (fun x=>x.2.1)++[j]from Jd hal]at h;simp only[Aj,A9,BT,DB]at h⊢;rcases h with h|h|h|h|h|h
 . exact .inl h
 . exact .inr (.inl h)
 . exact .inr (.inr (.inl h))
 . exact .inr (.inr (.inr (.inl h)))
 . exact .inr (.inr (.inr (.inr h)))
 . omega
theorem Wy {bk ba bd bv i j:Nat} {G:bn} {k:aA} {L L':DL} {K:List (aj×(Value×ae))} {V:List ((Int×Int)×Int)} (hn:(G.alive.map (·.1)).Nodup) (hal:aE G.alive k=some (j,L)) (h:eo bk ba bd bv ⟨K,cw G.alive k (j,L'),G.dead,V⟩ i):eo bk ba bd bv G i:=by
 unfold eo at h⊢;rw[show(cw G.alive k (j,L')).map (fun x=>x.2.1)=G.alive.map (fun x=>x.2.1)from uP hn hal rfl]at h;exact h
theorem RJ {G:bn} (hn:(G.alive.map (·.1)).Nodup) (d:aj) {j:Nat} (h:j∈(kv G d).alive.map (·.2.1)):j∈G.alive.map (·.2.1):=by
 unfold kv at h;simp only at h;split at h
 . split at h
   . unfold ot at h;split at h
     . exact h
     . rename_i x hx;split at h
       . obtain⟨y,hy,rfl⟩:=Au.1 h;exact Au.2 ⟨y,(Ar.1 hy).1,rfl⟩
       . rw[show(cw G.alive _ (x.1,dD x.2 d)).map (fun x=>x.2.1)=G.alive.map (fun x=>x.2.1)from uP hn hx rfl]at h;exact h
   . exact h
 . exact h
theorem JF {G:bn} {l:List aj} {k:Nat} (h:k<l.length):kS G (l.take (k+1))=kv (kS G (l.take k)) l[k]:=by
 unfold kS;rw[AF h,ES];rfl
theorem Pf {w:World} {n b bk ba bd bs bv:Nat} {G:bn} {m:aJ} {e:ae} {u:Value} (h:cT w n b bk ba bd bs bv G) (hg:cq G m) (hn:n<=w.heap.size) (hu:iX w u e) (hse:lr e) (hover:e.over.length<=100000) (hseq:∀a i,0<=getM m.ctx a i/\getM m.ctx a i<=4294967296)
  (q1:gm e=true) (q2:eI m.ctx e.dot=false) (q3:getM m.ctx e.dot.dev e.dot.inc+1=e.dot.seq) (q4:¬2048<=m.kept.length):
  Calls Tryz.prog 15 #[.pointer (some ⟨b,0,none⟩),u] w fun e' w'=>e'= .returned (.tuple #[.bool true, .int .i64 0])/\eY (eo bk ba bd bv G) w w'/\ ∃G',cT w' n b bk ba bd bs bv G'/\cq G' (ey m e).1:=by
 obtain⟨v,hu,hd⟩:=hu;obtain⟨va,vn,vc,hve⟩:=hd.one;obtain⟨cs,hcs⟩:∃cs:Array Value,Hid ((cX e v).toArray=cs):=⟨_,rfl⟩;have hu':u= .agg cs:=by rw[hu,<-(show(cX e v).toArray=cs from hcs)];rfl
 have hev0:iX w (.agg cs) e:=⟨v,by rw[<-hu',hu],hd⟩;clear hu;subst hu';obtain⟨SZ,mm,hSZ,hsz,hm⟩:=uv;obtain⟨W,hW⟩:∃W,w.alloc (.cells cs 42)=W:=⟨_,rfl⟩;have hb:Below w.heap.size w W:=by rw[<-hW];exact(Below.refl w.heap.size w).alloc (Ai _) _
 have hs:W.heap.size=w.heap.size+1:=by rw[<-hW];simp
 have hr:W.rangeAt w.heap.size 0 (cX e v):=by rw[<-hW,<-(show(cX e v).toArray=cs from hcs)];exact ug w e v
 have h0:=h.below hb;have hright:=HV (hev0.cells (eu hb)) hse;obtain⟨k0,k1,k2,k6,k18,kl⟩:=ft hr hcs hm;rw[q1]at hright;letI:Inhabited aL:=⟨⟨True,#[]⟩⟩
 have hdot:fk e.dot=true:=wT q1;have hhas:decide (e.dot.seq<=oS G.vec e.dot.dev e.dot.inc)=false:=by
  have hh:decide (e.dot.seq<=oS G.vec e.dot.dev e.dot.inc)=eI m.ctx e.dot:=by
   unfold eI;rw[hdot,Bj,fc,hg.vec]
  rw[hh,q2]
 have hwr:IntKind.i64.wrap (getM m.ctx e.dot.dev e.dot.inc+1)=getM m.ctx e.dot.dev e.dot.inc+1:=IntWalk.i64_in _ (by have:=hseq e.dot.dev e.dot.inc;omega);have hne:(e.dot.seq !=getM m.ctx e.dot.dev e.dot.inc+1)=false:=by rw[q3];simp
 have hl:G.kept.length<=100000:=by rw[hg.len];omega
 have hroom:decide (1<=2048 - (G.kept.length:Int))=true:=Bg (by rw[hg.len];omega);have hprev:(aE G.vec (e.dot.dev,e.dot.inc)).getD 0=e.dot.seq - 1:=by
  have:=hg.vec e.dot.dev e.dot.inc;unfold oS at this;rw[this];omega
 have hfin:=fun(v:Value) (nb:Nat)=>(hg.apply v nb q1 q2 q3 q4).1
 have hfinal:Hid (∀(v:Value) (nb:Nat),cq (qM G e v nb) (ey m e).1):=hfin;clear hfin;have hgv:=hg.vec;clear q1 q2 q3 q4 hg;go_enter Tryz.func15,Tryz.ntmps15
 go_wp2_with (go_at_call 65;refine hright.mono ?_;rintro e' w1 ⟨rfl,hb1⟩;have hbf1:=hb.trans (hb1.mono (by omega));have h1:=h0.below hb1;have r1:=gh (eu hb1) hr;obtain⟨a0,a1,a2,a6,a18,al⟩:=ft r1 hcs hm;have a3:=h1.c3;have h1d:=h1.below (Below.refl w1.heap.size w1).drew;have hv1:=yS h1d.cv h1d.mv e.dot.dev e.dot.inc e.dot.seq hdot;rw[hhas]at hv1;have hev1:=(hev0.cells (eu hb)).cells (eu hb1);clear k0 k1 k2 k6 k18 kl h1d)
 go_region_held3 (fun w'=>w'.cell? ⟨b,3,none⟩=some (.pointer (some ⟨bs,0,none⟩))/\w'.cell? ⟨w.heap.size,0,none⟩=some (.int .i64 e.dot.dev)/\w'.cell? ⟨w.heap.size,1,none⟩=some (.int .i64 e.dot.inc)/\w'.cell? ⟨w.heap.size,2,none⟩=some (.int .i64 e.dot.seq)) (simp[*]) (first|(go_at_call 66;refine hv1.mono ?_;rintro e' w2 ⟨rfl,hb2⟩;have hbf2:=hbf1.drew.trans (hb2.mono (by have:=hbf1.size;show _<=w1.heap.size;omega));have h2:=(h1.below (Below.refl w1.heap.size w1).drew).below hb2;have r2:=gh (eu hb2) (gh (eu (Below.refl w1.heap.size w1).drew) r1);obtain⟨b0,b1,b2,b6,b18,bl⟩:=ft r2 hcs hm;have b3:=h2.c3;have h2d:=h2.below (Below.refl w2.heap.size w2).drew;have hv2:=lY h2d.cv h2d.mv e.dot.dev e.dot.inc;rw[show(aE G.vec (e.dot.dev,e.dot.inc)).getD 0=getM m.ctx e.dot.dev e.dot.inc from hgv _ _]at hv2;have hev2:iX w2 (.agg cs) e:=hev1.cells (fun bb arr t fz hx=>eu hb2 bb arr t fz hx);clear a0 a1 a2 a6 a18 al a3 hv1 h2d))
 all_goals go_wp2_with fail
 all_goals go_region_held3 (fun w'=>w'.cell? ⟨b,3,none⟩=some (.pointer (some ⟨bs,0,none⟩))/\w'.cell? ⟨w.heap.size,0,none⟩=some (.int .i64 e.dot.dev)/\w'.cell? ⟨w.heap.size,1,none⟩=some (.int .i64 e.dot.inc)/\w'.cell? ⟨w.heap.size,2,none⟩=some (.int .i64 e.dot.seq)) (simp[*]) (first|(go_at_call 67;refine hv2.mono ?_;rintro e' w3 ⟨rfl,hb3⟩;have hbf3:=hbf2.drew.trans (hb3.mono (by have:=hbf2.size;show _<=w2.heap.size;omega));have h3:=(h2.below (Below.refl w2.heap.size w2).drew).below hb3;have hv3:=Tryz.room h3 hl;rw[hroom]at hv3;have r3:=gh (eu hb3) (gh (eu (Below.refl w2.heap.size w2).drew) r2);obtain⟨c0,c1,c2,c6,c18,cl⟩:=ft r3 hcs hm;have c3:=h3.c3;have hev3:iX w3 (.agg cs) e:=hev2.cells (fun bb arr t fz hx=>eu hb3 bb arr t fz hx);clear b0 b1 b2 b6 b18 bl b3 hv2))
 all_goals go_wp2_with (go_at_call 68;refine hv3.mono ?_;rintro e' w4 ⟨rfl,rfl⟩;have h3d:=h3.below (Below.refl w4.heap.size w4).drew;have hv4:=Qc h3d.cv h3d.mv e.dot.dev e.dot.inc e.dot.seq (fun hh=>vV h3d.cv (by rw[hh];exact aB.isMap h3d.mv)) hdot hprev;clear hv3)
 all_goals go_region_held3 (fun w'=>w'.cell? ⟨b,3,none⟩=some (.pointer (some ⟨bs,0,none⟩))/\w'.cell? ⟨w.heap.size,0,none⟩=some (.int .i64 e.dot.dev)/\w'.cell? ⟨w.heap.size,1,none⟩=some (.int .i64 e.dot.inc)/\w'.cell? ⟨w.heap.size,2,none⟩=some (.int .i64 e.dot.seq)) (simp[*]) (first|(go_at_call 69;refine hv4.mono ?_;rintro e' w5 ⟨rfl,hb5,hmv5⟩;have h5:=h3d.p7 hb5 hmv5;have hbut5:eY (eo bk ba bd bv G) w w5:=(lW hbf3.drew).trans (hb5.mono fun k _ hk=>by(rw[hk];unfold eo;simp));have hc5:jh w4.drew w5:=hb5.cells (fun k hk=>by(rw[hk];exact aB.isMap h3d.mv));have r5:=gh hc5 (gh (eu (Below.refl w4.heap.size w4).drew) r3);obtain⟨d0,d1,d2,d6,d18,dl⟩:=ft r5 hcs hm;have d3:=h5.c3;have e0:=h5.c0;obtain⟨-, -, -, -, -,dl'⟩:=ft (gh (eu (Below.refl w5.heap.size w5).drew) r5) hcs hm;have hev5:iX w5.drew (.agg cs) e:=hev3.cells (fun bb arr t fz hx=>hc5 bb arr t fz hx);have hv5:=Qy hev5 hover;clear c0 c1 c2 c6 c18 cl c3 hv4))
 all_goals go_wp2_with fail
 all_goals go_region_held3 (fun w'=>w'.cell? ⟨b,0,none⟩=some (.map (some bk))/\w'.cell? ⟨w.heap.size,0,none⟩=some (.int .i64 e.dot.dev)/\w'.cell? ⟨w.heap.size,1,none⟩=some (.int .i64 e.dot.inc)/\w'.cell? ⟨w.heap.size,2,none⟩=some (.int .i64 e.dot.seq)/\(loadCellsFrom ⟨w.heap.size,0,none⟩ 0 mm #[]).run Tryz.prog w'= .ok cs w') (simp[*]) (first|(go_at_call 70;refine hv5.mono ?_;rintro e' w6 ⟨u',rfl,hev6,hb6⟩;have h6:=(h5.below (Below.refl w5.heap.size w5).drew).below hb6;have r6:=gh (eu hb6) (gh (eu (Below.refl w5.heap.size w5).drew) r5);obtain⟨f0,f1,f2,f6,f18,fl⟩:=ft r6 hcs hm;have f3:=h6.c0;obtain⟨es,clk,hup,hmu⟩:=h6.iz.update iK Tryz.underlying99 e.dot (u',e);rw[show bQ e.dot= .agg #[.int .i64 e.dot.dev, .int .i64 e.dot.inc, .int .i64 e.dot.seq]from rfl,show qT (u',e)=u' from rfl]at hup;have h7:=h6.pc (x:=(u',e)) hev6 hmu;have hbut6:eY (eo bk ba bd bv G) w w6:=hbut5.drew.trans (lW hb6);have hbut7:eY (eo bk ba bd bv G) w (World.bc w6 bk (.map es clk)):=hbut6.trans (xe (aB.isMap h6.iz) (by(unfold eo;simp)));have r7:(World.bc w6 bk (.map es clk)).rangeAt w.heap.size 0 (cX e v):=gh (Jm (aB.isMap h6.iz)) r6;obtain⟨W7,hW7⟩:∃W7,World.bc w6 bk (.map es clk)=W7:=⟨_,rfl⟩;rw[hW7]at hup h7 hbut7 r7;obtain⟨g0,g1,g2,g6,g18,gl⟩:=ft r7 hcs hm;have g3:=h7.c0;clear d0 d1 d2 d6 d18 dl d3 e0 hv5 hmu))
 rename_i Q0 K0 hK0 hS0;clear hS0;refine hK0 _ _ ?_;apply wp_seq_k;intro K1 hK1;go_cut []from 6 (fun wc=>eY (eo bk ba bd bv G) w wc/\(∃nb,cT wc n b bk ba bd bs bv (iH (gN G e u') e nb)/\ ∀i,i<w.heap.size->eo bk ba bd bv (iH (gN G e u') e nb) i->eo bk ba bd bv G i)/\wc.rangeAt w.heap.size 0 (cX e v))
 case rest=>
  obtain⟨hbutc,⟨nb,hc,hmc⟩,rc⟩:=hcut;have hmapsW:=h.maps;obtain⟨p0,p1,p2,p6,p18,pl⟩:=ft rc hcs hm;rw[hve]at p18;have hlenv:vn=e.over.length:=by
   rw[hve]at hd;rcases hd with⟨h0,a,c,hh⟩|⟨_,_,_,_,_,_,hh,_⟩
   . cases hh;rw[h0];rfl
   . cases hh;rfl
  subst hlenv;clear h h0 hr hright hev0;go_wp2;go_loopw [72] (fun i wr=>∃k:Nat,k<=e.over.length/\i= .int .i64 k/\eY (eo bk ba bd bv G) w wr/\cT wr n b bk ba bd bs bv (kS (iH (gN G e u') e nb) (e.over.take k))/\ ∀i,i<w.heap.size->eo bk ba bd bv (kS (iH (gN G e u') e nb) (e.over.take k)) i->eo bk ba bd bv G i)
   (fun i _=>e.over.length - (intOf i).toNat)
  case atStart=>exact⟨0,Aw _,rfl,hbutc,by rw[DP];exact hc,by rw[DP];exact hmc⟩
  case round=>
   obtain⟨k,hk,rfl,hbr,hor,hmr⟩:=hrel;by_cases hlt:k<e.over.length
   . have hstay:jh w wr:=hbr.cells hmapsW;rw[hve]at hd;rcases hd with⟨h0,_⟩|⟨ob,off,cap,arr,ty,fz,hh,hob,hcap,hlen,hcells⟩
     . rw[h0]at hlt;exact absurd hlt (Be _)
     . simp only[Value.slice.injEq]at hh;obtain⟨rfl, -,rfl⟩:=hh;obtain⟨x0,x1,x2⟩:=hcells k hlt;have hobr:=hstay _ _ _ _ hob;have cell:∀{j:Nat} {u:Value},arr[j]? =some u->wr.cell? ⟨ob,j,none⟩=some u:=fun hx=>by
        unfold World.cell?;simp only[hobr,Bc,Ak,AB];exact hx
       have c0:=cell x0;have c1:=cell x1;have c2:=cell x2;have hba:Below wr.heap.size wr (wr.alloc (.cells #[.int .i64 e.over[k].dev, .int .i64 e.over[k].inc, .int .i64 e.over[k].seq] 35)):=(Below.refl wr.heap.size wr).alloc (Ai _) _;have hkill:=Tryz.kill (hor.below hba) e.over[k];have hnda:=hor.ma.nd;have hwrs:=hbr.size;rw[show bQ e.over[k]= .agg #[.int .i64 e.over[k].dev, .int .i64 e.over[k].inc, .int .i64 e.over[k].seq]from rfl]at hkill;clear hcells x0 x1 x2 cell hob hobr hstay hlen rc hc hbutc p0 p1 p2 p6 pl p18;go_wp2_with (go_at_call 73;refine hkill.mono ?_;rintro e' w9 ⟨rfl,hb9,h9⟩;have R1:eY (eo bk ba bd bv G) w w9:=(hbr.more (lW (S:=fun _=>False) hba) (fun _ _ h=>h.elim)).more hb9 (fun i hi hh=>hmr i hi hh);rw[<-JF hlt]at h9)
       go_roundw
       case rel=>
        refine⟨k+1,hlt,by go_num,R1,h9,fun i hi hh=>hmr i hi ?_⟩;rw[JF hlt]at hh;unfold eo at hh⊢;simp only[Aj]at hh⊢;rcases hh with hh|hh|hh|hh|hh
        . exact .inl hh
        . exact .inr (.inl hh)
        . exact .inr (.inr (.inl hh))
        . exact .inr (.inr (.inr (.inl hh)))
        . exact .inr (.inr (.inr (.inr (RJ hnda _ hh))))
       case measure=>simp[intOf];omega
   . have hkl:k=e.over.length:=by omega
     subst hkl;rw[Bp]at hor;go_wp2;refine bodyPost_ret (results_tmp2 rfl _ _ _) rfl ?_;exact⟨rfl,hbr,_,hor,(show ∀(v:Value) (nb:Nat),cq (qM G e v nb) (ey m e).1 from hfinal) u' nb⟩
 case first=>
  have h7':cT W7 n b bk ba bd bs bv (gN G e u'):=h7;have hencv:gS e v= .agg cs:=by rw[<-(show(cX e v).toArray=cs from hcs)];rfl
  by_cases kd:e.kind=1
  case neg=>
   have hL:iH (gN G e u') e 0=gN G e u':=by unfold iH;rw[if_neg (fun hh=>kd hh.1)]
   go_wp2;go_meet
   case rel=>exact⟨hbut7,⟨0,by rw[hL];exact⟨h7',fun _ _ hh=>hh⟩⟩,r7⟩
  case pos=>
   rw[kd]at g6;have hdead:=Tryz.dead h7' e.dot;rw[show bQ e.dot= .agg #[.int .i64 e.dot.dev, .int .i64 e.dot.inc, .int .i64 e.dot.seq]from rfl,show(gN G e u').dead=G.dead from rfl]at hdead
   cases hdd:aE G.dead e.dot with
   | some z=>
     rw[hdd]at hdead;have hL:iH (gN G e u') e 0=gN G e u':=by
       unfold iH;rw[if_neg (fun hh=>by have:=hh.2;rw[show(gN G e u').dead=G.dead from rfl,hdd]at this;cases this)]
     go_wp2_with (go_at_call 71;refine hdead.mono ?_;rintro e' w8 ⟨rfl,hb8⟩;have h8:=h7'.below hb8;have r8:=gh (eu hb8) r7;have hbut8:=hbut7.more (lW (S:=fun _=>False) hb8) (fun _ _ h=>h.elim))
     go_meet
     case rel=>exact⟨hbut8,⟨0,by rw[hL];exact⟨h8,fun _ _ hh=>hh⟩⟩,r8⟩
   | none=>
     rw[hdd]at hdead
     cases hal:aE G.alive e.key with
     | none=>
       have hL:∀nb,iH (gN G e u') e nb={gN G e u' with alive:=cw G.alive e.key (nb,[(e.dot,1)])}:=fun nb=>by
        unfold iH pM;rw[if_pos ⟨kd,hdd⟩,show(gN G e u').alive=G.alive from rfl,hal]
       go_wp2_with (first
        |(go_at_call 71;refine hdead.mono ?_;rintro e' w8 ⟨rfl,hb8⟩;have h8:=h7'.below hb8;have r8:=gh (eu hb8) r7;have hbut8:=hbut7.more (lW (S:=fun _=>False) hb8) (fun _ _ h=>h.elim);obtain⟨j0,j1,j2,j6,ze,jl⟩:=ft r8 hcs hm;have hlive:=Ph h8 (by have:=hbut8.size;omega) e v hal;rw[hencv]at hlive)
        |(go_at_call 72;refine hlive.mono ?_;rintro e' w9 ⟨rfl,hb9,nb,hnb,h9⟩;have r9:=gh (hb9.cells h8.maps) r8;have hbut9:eY (eo bk ba bd bv G) w w9:=hbut8.trans hb9))
       go_meet
       case rel=>exact⟨hbut9,⟨nb,by rw[hL];exact⟨h9,fun i hi hh=>Wx hal (by have:=hbut8.size;omega) hi hh⟩⟩,r9⟩
     | some x=>
       obtain⟨jb,L⟩:=x;have hL:iH (gN G e u') e 0={gN G e u' with alive:=cw G.alive e.key (jb,cw L e.dot 1)}:=by
        unfold iH pM;rw[if_pos ⟨kd,hdd⟩,show(gN G e u').alive=G.alive from rfl,hal]
       go_wp2_with (first
        |(go_at_call 71;refine hdead.mono ?_;rintro e' w8 ⟨rfl,hb8⟩;have h8:=h7'.below hb8;have r8:=gh (eu hb8) r7;have hbut8:=hbut7.more (lW (S:=fun _=>False) hb8) (fun _ _ h=>h.elim);obtain⟨j0,j1,j2,j6,ze,jl⟩:=ft r8 hcs hm;have hlive:=Pj h8 e v hal;rw[hencv]at hlive)
        |(go_at_call 72;refine hlive.mono ?_;rintro e' w9 ⟨rfl,hb9,h9⟩;have r9:=gh (hb9.cells h8.maps) r8;have hbut9:eY (eo bk ba bd bv G) w w9:=hbut8.trans hb9))
       go_meet
       case rel=>exact⟨hbut9,⟨0,by rw[hL];exact⟨h9,fun i hi hh=>Wy h.ma.nd hal hh⟩⟩,r9⟩
end Go.Proofs
namespace Go.Proofs
open Go Go.Am Go.RowKit Go.Sy Go.Gm Go.Maps Go.Sort Go.Shelf
section
inductive Flat:SV->Prop
 |bool (b:Bool):Flat (.bool b)
 |int (k:IntKind) (n:Int):Flat (.int k n)
 |str (s:List UInt8):Flat (.str s)
 |wp (a:Addr):Flat (.wp a)
 |ar {X:Type} {L:List X} {enc:X->List SV} (h:∀(i:Nat) x (j:Nat) v,L[i]? =some x->(enc x)[j]? =some v->Flat v):Flat (.ar X L enc)
theorem uj (l:List aj):Flat (cL l):= .ar fun i x j v _ hv=>by
 have hj:j<3:=(Ab.1 hv).1;match j,hj with
 |0,_|1,_|2,_=>cases hv;exact .int _ _
theorem uu (l:List ae):Flat (cG l):= .ar fun i x j v _ hv=>by
 have hj:j<19:=(Ab.1 hv).1;match j,hj with
 |0,_|1,_|2,_|3,_|4,_|5,_|6,_|15,_|16,_|17,_=>cases hv;exact .int _ _
 |7,_|8,_|9,_|10,_=>cases hv;exact .str _
 |11,_|12,_|13,_|14,_=>cases hv;exact .bool _
 |18,_=>cases hv;exact uj _
section
variable [Inhabited aL] {tab:bB} {w:World} {p:Nat->Prop} {g:Bool}
theorem Tw {n:Nat} (a:Option Addr) (c:Nat):cQ n (.slice a 0 c)= .nils\/cQ n (.slice a 0 c)= .raw (.slice a 0 c):=by
 unfold cQ;split<;>simp_all
theorem qN {s:SV} (hf:Flat s):∀{v:Value},Rd w p g s v->aT (bT tab w).get s (cQ w.heap.size v):=by
 induction hf with
 |bool b=>intro v h;cases h;exact .bool b
 |int k n=>intro v h;cases h;exact .int k n
 |str s=>intro v h;cases h;exact .str s
 |wp a=>intro v h;cases h;exact .wp a
 | @ar X L enc hfl ih=>
  intro v h
  cases h with
  |fN h0=>exact .bX h0 (.inl rfl)
  |bX h h0 a c=>
   rcases Tw (n:=w.heap.size) a c with e|e
   . rw[e];exact .bX h0 (.inl rfl)
   . rw[e];exact .bX h0 (.inr (.inr ⟨_,_,rfl⟩))
  |ar b off cap arr e fz sz u hp hb hs hl hn hc h1 h2=>
   exact xa hb hs (fun x hx=>by obtain⟨i,hi,rfl⟩:=Bn hx;exact hn i _ (Af hi)) hl rfl hc (fun i x j v hx hv=>⟨u i j,h1 i x j v hx hv,ih i x j v hx hv (h2 i x j v hx hv)⟩)
theorem Vk {s:SV} (hf:Flat s) {v:Value} (h:Rd w p g s v) (n:Nat):dB n v=cQ n v:=by
 cases hf<;>cases h<;>rfl
theorem Yf {s:SV} (hf:Flat s) {v:Value} (h:Rd w p g s v):aT (bT tab w).get s (dB w.heap.size v):=by
 rw[Vk hf h];exact qN hf h
theorem FZ {cs:List SV} (hf:∀c∈cs,Flat c) {v:Value} (h:Rd w p g (.agg cs) v):aT (bT tab w).get (.agg cs) (dB w.heap.size v):=by
 cases h with
 | @agg cs vs h1 h2=>
  show aT _ (.agg cs) (.agg (vs.toList.map (cQ w.heap.size)))
  refine .agg (by simpa using h1) fun i c v hc hv=>?_
  rw[Az]at hv
  cases hi:vs.toList[i]? with
  |none=>rw[hi]at hv;cases hv
  |some x=>
   rw[hi]at hv
   cases hv;exact qN (hf c (BD hc)) (h2 i c x hc (by rw[<-A6];exact hi))
theorem Y7 {s:SV} {v:Value} (h:aT (bT tab w).get s (dB w.heap.size v)):Rd w (fun _=>True) true s v:=by
 have:=ur (oR tab w (E:=⟨fun i=>i,fun _=>0⟩) (fun _ _=>rfl)) (fun _ _ h=>h) h;rwa [zV (fun _ _=>rfl)]at this
end
def ff (w:World) (l:List ae) (v:Value):Prop:=(l=[]/\ ∃a c,v= .slice a 0 c)\/ ∃b off cap arr e fz,v= .slice (some ⟨b,off,none⟩) l.length cap/\w.heap[b]? =some (.cells arr e fz)/\l.length<=cap/\off+l.length*19<=arr.size/\
 ∀i (h:i<l.length),∃u,(∀j,j<19->arr[off+i*19+j]? =(cX l[i] u)[j]?)/\cF w l[i].over u
theorem ff.cells {w w':World} (hc:jh w w') {l:List ae} {v:Value} (h:ff w l v):ff w' l v:=by
 rcases h with h|⟨b,off,cap,arr,e,fz,h1,h2,h3,h5,h4⟩
 . exact .inl h
 . exact .inr ⟨b,off,cap,arr,e,fz,h1,hc _ _ _ _ h2,h3,h5,fun i hi=>by obtain⟨u,k1,k2⟩:=h4 i hi;exact⟨u,k1,k2.cells hc⟩⟩
theorem ff.one {w:World} {l:List ae} {v:Value} (h:ff w l v):∃a c,v= .slice a l.length c:=by
 rcases h with⟨rfl,a,c,rfl⟩|⟨b,off,cap,arr,e,fz,rfl,_⟩<;>exact⟨_,_,rfl⟩
theorem Nq [Inhabited aL] {w:World} {p:Nat->Prop} {g:Bool} {l:List ae} {v:Value} (h:Rd w p g (cG l) v):ff w l v:=by
 unfold cG at h
 cases h with
 |fN h0=>exact .inl ⟨AN.1 h0,_,_,rfl⟩
 |bX h h0 a c=>exact .inl ⟨AN.1 h0,_,_,rfl⟩
 |ar b off cap arr e fz sz u hp hb hs hl hn hc h1 h2=>
  by_cases h0:l=[]
  . subst h0;exact .inl ⟨rfl,_,_,rfl⟩
  . have hsz:sz=19:=by
     obtain⟨x,l',rfl⟩:=El h0;exact(hn 0 x rfl).symm
    subst hsz;refine .inr ⟨b,off,cap,arr,e,fz,rfl,hb,hc,hl,fun i hi=>?_⟩;have hx:l[i]? =some l[i]:=Af hi;have key:∀(j:Nat) s,(ae.enc l[i])[j]? =some s->arr[off+i*19+j]? =some (u i j)/\Rd w p g s (u i j):=fun j s hs=>⟨h1 i _ j s hx hs,h2 i _ j s hx hs⟩
    refine⟨u i 18,fun j hj=>?_,uN (key 18 _ rfl).2⟩;match j,hj with
    |0,_|1,_|2,_|3,_|4,_|5,_|6,_|15,_|16,_|17,_=>rw[(key _ _ rfl).1,ik (key _ _ rfl).2];rfl
    |7,_|8,_|9,_|10,_=>rw[(key _ _ rfl).1,oQ (key _ _ rfl).2];rfl
    |11,_|12,_|13,_|14,_=>rw[(key _ _ rfl).1,qC (key _ _ rfl).2];rfl
    |18,_=>rw[(key _ _ rfl).1];rfl
    |_+19,h=>exact absurd h (by omega)
theorem uY [Inhabited aL] {w:World} {l:List ae} {v:Value} (h:ff w l v):Rd w (fun _=>True) true (cG l) v:=by
 unfold cG;rcases h with⟨rfl,a,c,rfl⟩|⟨b,off,cap,arr,e,fz,rfl,hb,hc,hl,hi⟩
 . exact .bX rfl rfl a c
 . refine .ar b off cap arr e fz 19 (fun i j=>(arr[off+i*19+j]?).getD (.bool false)) trivial hb (by decide) hl (fun _ _ _=>rfl) hc (fun i x j v hx hv=>?_) (fun i x j v hx hv=>?_)
   all_goals
     have hil:i<l.length:=(Ab.1 hx).1;have hxe:l[i]=x:=(Ab.1 hx).2;obtain⟨u,hcl,hd⟩:=hi i hil;rw[hxe]at hcl hd;have hj:j<19:=(Ab.1 hv).1;have hcl:=hcl j hj
   . rw[hcl,Af (show j<(cX x u).length from hj)];rfl
   . show Rd w _ true v ((arr[off+i*19+j]?).getD _)
     rw[hcl];match j,hj with
     |0,_|1,_|2,_|3,_|4,_|5,_|6,_|15,_|16,_|17,_=>cases hv;exact .int _ _
     |7,_|8,_|9,_|10,_=>cases hv;exact .str _
     |11,_|12,_|13,_|14,_=>cases hv;exact .bool _
     |18,_=>cases hv;exact uL hd
theorem OU {w:World} {b off:Nat} {arr:Array Value} {e:TypeId} {fz:Nat×Nat} {x:ae} {u:Value} {i:Nat} (hb:w.heap[b]? =some (.cells arr e fz)) (hc:∀j,j<19->arr[off+i*19+j]? =(cX x u)[j]?):
  (loadCellsFrom ⟨b,off+i*19,none⟩ 0 19 #[]).run Tryz.prog w= .ok (cX x u).toArray w:=by
 have hl:(loadCells ⟨b,off+i*19,none⟩ (cX x u).length).run Tryz.prog w= .ok (cX x u).toArray w:=
  run_loadCells_list (P:=Tryz.prog) w ⟨b,off+i*19,none⟩ (cX x u) (fun j v hv=>by
   have hj:j<19:=(Ab.1 hv).1;rw[Addr.add_mid];unfold World.cell?
   simp only[hb,Bc,Ak,AB];rw[hc j hj];exact hv)
 exact hl
theorem cT.heap {w w':World} {n b bk ba bd bs bv:Nat} {G:bn} (h:cT w n b bk ba bd bs bv G) (hs:∀i,i<w.heap.size->w'.heap[i]? =w.heap[i]?):cT w' n b bk ba bd bs bv G where
 c0:=eF h.c0 (hs _ (iC h.c0))
 c1:=eF h.c1 (hs _ (iC h.c1))
 c2:=eF h.c2 (hs _ (iC h.c2))
 c3:=eF h.c3 (hs _ (iC h.c3))
 cv:=eF h.cv (hs _ (iC h.cv))
 iz:=h.iz.same (hs _ h.iz.lt)
 ma:=h.ma.same (hs _ h.ma.lt)
 md:=h.md.same (hs _ h.md.lt)
 mv:=h.mv.same (hs _ h.mv.lt)
 mi:=fun x hx=>(h.mi x hx).same (hs _ (h.mi x hx).lt)
 nd:=h.nd
 low:=h.low
 ev:=fun x hx=>(h.ev x hx).cells fun c arr e fz hc=>by rw[hs _ (Ae.1 hc).1];exact hc
abbrev lx (w:World):Inhabited aL:=⟨⟨False,w.heap⟩⟩
theorem CC (w:World): @dd (lx w) w:=by intro b _;rfl
theorem xI (w:World):¬(@default aL (lx w)).dr:=fun h=>h
theorem KF {w:World} {n b bk ba bd bs bv:Nat} {G:bn} {m:aJ} (h:cT w n b bk ba bd bs bv G) (g:cq G m) (ok:gL m) (hov:∀e∈m.kept,e.over.length<=100000): @ch (lx w) b m:=
 letI:Inhabited aL:=lx w
 ⟨ok,hov,fun w' hw=>⟨n,bk,ba,bd,bs,bv,G,h.heap fun i hi=>hw i hi,g⟩⟩
theorem Tryz.apply {w:World} {n b bk ba bd bs bv:Nat} {G:bn} {m:aJ} {e:ae} {u:Value} (h:cT w n b bk ba bd bs bv G) (hg:cq G m) (hn:n<=w.heap.size) (hu:iX w u e) (hse:lr e) (hover:e.over.length<=100000) (ok:gL m):
  Calls Tryz.prog 15 #[.pointer (some ⟨b,0,none⟩),u] w fun e' w'=>e'= .returned (.tuple #[.bool (ey m e).2.1, .int .i64 (ey m e).2.2])/\Below n w w'/\jh w w'/\ ∃G',cT w' n b bk ba bd bs bv G'/\cq G' (ey m e).1:=by
 letI:Inhabited aL:=⟨⟨True,#[]⟩⟩
 have hseq:=JE ok.seq;have hl:G.kept.length<=100000:=by rw[hg.len];have:=ok.kept;omega
 cases hA:(ey m e).2.1 with
 |false=>
  refine(OP h hg hu hse hl hseq hA).mono ?_;rintro e' w' ⟨rfl,he,hb⟩;exact⟨rfl,hb.mono hn,eu hb,G,h.below hb,by rw[he];exact hg⟩
 |true=>
  have hq:gm e=true/\eI m.ctx e.dot=false/\getM m.ctx e.dot.dev e.dot.inc+1=e.dot.seq/\ ¬2048<=m.kept.length/\(ey m e).2.2=0:=by
    unfold ey at hA⊢;split at hA
    . cases hA
    split at hA
    . cases hA
    split at hA
    . cases hA
    split at hA
    . cases hA
    rename_i q1 q2 q3 q4;rw[if_neg q1,if_neg q2,if_neg q3,if_neg q4];exact⟨by simpa using q1,by simpa using q2,by simpa using q3,q4,rfl⟩
  obtain⟨q1,q2,q3,q4,q5⟩:=hq;rw[q5];refine(Pf h hg hn hu hse hover hseq q1 q2 q3 q4).mono ?_;rintro e' w' ⟨rfl,hb,G',h1,h2⟩;have hmaps:=h.maps;refine⟨rfl,⟨hb.os,hb.tape,hb.output,hb.size,fun k hk=>hb.block k (by omega) fun hm=>?_⟩,fun c arr ty fz hc=>?_,G',h1,h2⟩
  . have:=h.low k (by unfold eo at hm;simp only[Aj]at hm⊢;exact .inr (.inr hm));omega
  . rw[hb.block c (Ae.1 hc).1 fun hm=>?_]
    . exact hc
    . obtain⟨es,clk,he⟩:=hmaps c hm;rw[hc]at he;cases he
end
section
variable [Inhabited aL]
end
section
section
variable [Inhabited aL]
theorem TV (m:aJ):(fC m).length<=m.kept.length:=by
 have h1:=xg m (ct m) [];have h2:(ct m).length<=m.kept.length:=AL _ _;unfold fC cP;simp only[AK,Ax]at h1;omega
theorem Lj (m:aJ):(dF m).length<=m.kept.length:=by unfold dF;rw[Bf];exact TV m
end
end
theorem Wt [Inhabited aL] {l:List ae} (h:(bV (Int.ofNat l.length) 30&&l.all iA)=true):l.length<=30/\te l:=by
 rw[Aa,fc,Ad,AI]at h;have h1:(l.length:Int)<=30:=h.1;exact⟨by omega,by omega,h.2⟩
theorem S0 [Inhabited aL] {l:List ae} {i:Nat} (h:i<l.length):dV (l.take (i+1))=(ey (dV (l.take i)) l[i]).1:=ln (fun m e=>(ey m e).1) mS h
theorem Xj [Inhabited aL] {m:aJ} {e x:ae} (h:x∈(ey m e).1.kept):x∈m.kept\/x=e:=by
 unfold ey at h;split at h
 . exact .inl h
 split at h
 . exact .inl h
 split at h
 . exact .inl h
 split at h
 . exact .inl h
 unfold fw at h;rcases A9.1 h with h|h
 . exact .inl (Du h)
 . rcases Aj.1 h with h|h
   . exact .inr h
   . exact .inl (D8 h)
theorem CR [Inhabited aL] (l:List ae) {x:ae} (h:x∈(dV l).kept):x∈l:=by
 have key:∀(l:List ae) (m:aJ),x∈(l.foldl (fun m e=>(ey m e).1) m).kept->x∈m.kept\/x∈l:=by
   intro l;induction l with
   |nil=>intro m h;exact .inl h
   |cons e l ih=>
    intro m h;rcases ih _ h with h|h
    . rcases Xj h with h|rfl
      . exact .inl h
      . exact .inr An
    . exact .inr (Ao _ h)
 rcases key l mS h with h|h
 . cases h
 . exact h
theorem I5 {w:World} {n b bk ba bd bs bv:Nat} {G:bn} {l:List ae} (h:cT w n b bk ba bd bs bv G) (g:cq G (dV l)) (hl:te l): @ch (lx w) b (dV l):=by
 letI:Inhabited aL:=lx w
 have hb:=rX hl.2 l.length (Ai _);rw[Bp]at hb;exact KF h g (hb.ok (by have:=hl.1;omega)) fun e he=>by
  have:=(uf (hl.2 e (CR l he))).2;omega
section
theorem P7 {w:World} {n b bk ba bd bs bv:Nat} {G:bn} (h:cT w n b bk ba bd bs bv G) (hl:G.kept.length<=100000) (k:Nat) (hk:k<=1000000):Calls Tryz.prog 68 #[.pointer (some ⟨b,0,none⟩), .int .i64 k] w fun e w'=>e= .returned (.bool (decide ((k:Int)<=2048 - (G.kept.length:Int))))/\w'=w:=by
 obtain⟨es,clk,hb,hsz⟩:=h.iz.len;have c0:=h.c0;have hlen:(Builtin.len_ #[99] 3 #[.map (some bk)]).run Tryz.prog w= .ok (.int .i64 G.kept.length) w:=by
  rw[run_len_map w 99 3 bk es clk (by simp[Program.mapKeyOf,Program.mapElemOf,Tryz.underlying99]) hb,hsz];rfl
 have hwr:wrap64 (2048 - (G.kept.length:Int))=2048 - (G.kept.length:Int):=by
  exact IntWalk.wrap64_in _ (by omega)
 clear h hb;go_enter Tryz.func68,Tryz.ntmps68
 go_wp2;go_ret;exact⟨rfl,rfl⟩
variable [Inhabited aL]
def Ni:aN:={Y:=Nat×aJ×Nat,pre:=fun y=>ch y.1 y.2.1/\y.2.2<=1000000,args:=fun y=>[.wp ⟨y.1,0,none⟩,i64 y.2.2],res:=fun y=> .bool (decide (y.2.1.kept.length+y.2.2<=2048))}
theorem XZ (hdr:¬(default:aL).dr):CO vH Ni:=kD bC.ok (by
 rintro⟨b,m,k⟩ ⟨hpre,hk⟩ w args hold ⟨h1,h2⟩;match args,h1 with
 |[v,u],_=>
 have e1:=GI (h2 0 _ _ rfl rfl);have e2:=Y4 (h2 1 _ _ rfl rfl);subst e1 e2;obtain⟨n,bk,ba,bd,bs,bv,G,hO,hG⟩:=hpre.at_ w hold;have hkl:=hpre.ok.kept;refine(P7 hO (by rw[hG.len];omega) k hk).mono ?_;rintro e w' ⟨rfl,rfl⟩;refine⟨_,rfl, .inr ?_,Below.refl _ _,fun h=>(hdr h).elim⟩;rw[hG.len,show decide ((k:Int)<=2048 - (m.kept.length:Int))=decide (m.kept.length+k<=2048)from by congr 1;apply propext;omega];exact .bool _)
def iF (m:aJ):List aa:=(dF m).filter fun x=> !x.ab.persistent
def xK:aN:={Y:=Mp,pre:=fun y=>y.at,args:=fun y=>[y.arg],res:=fun y=>ec (iF y.m)}
def XJ (y:Nat×aJ):aI:=let l:=dF y.2;{α:=Nat,ok:=fun i=>i<=l.length,μ:=fun i=>l.length - i,aX:=[],aS:=fun i=>[(3, .own 0),(7,ec l),(8,i64 (Int.ofNat l.length)),(9,i64 i)],bw:=fun i=>[(0,om ((l.take i).filter fun x=> !x.ab.persistent))]}
theorem CG (hdr:¬(default:aL).dr):CO ni xK:=bZ (cfg:=fun(y:Mp)=>cz (Mp.gP vh y) (Mp.mB (fun z=>cD ni 3 (XJ z)) y)) bC (fun _=>rfl) (fun(y:Mp)=>GL (xo hdr) y) (n:=600) (by
 rintro(_|⟨b,m⟩) hm
 . repeat' (first|exact trivial|exact rfl|((conv=>whnf);first|(apply aK<;>intro)|apply And.intro))
 have hm:ch b m:=hm;have hil:=Ub hm.ok
 (conv=>whnf)
 refine⟨some (b,m),?_⟩
 repeat ((conv=>whnf);first|refine⟨rfl,?_⟩|refine⟨trivial,?_⟩)
 refine⟨hm,?_⟩
 (conv=>whnf)
 refine⟨⟨(0:Nat),Aw _,?_⟩,?_⟩
 . repeat' (first|exact trivial|exact rfl|((conv=>whnf);first|(apply aK<;>intro)|apply And.intro))
   all_goals exact au.2 ⟨_,rfl,ag.2 ⟨rfl,fun _=>rfl⟩⟩
 intro (x:Nat) hx;have hx:x<=(dF m).length:=hx;have hlen:=MW (l:=dF m) (x:=x) (p:=fun z:aa=> !z.ab.persistent)
 (conv=>whnf)
 refine aK (fun hlt=>?_) fun hge=>?_
 . have hlt':x<(dF m).length:=cB hlt;have hf:=CY (p:=fun z:aa=> !z.ab.persistent) hlt';have mu:(dF m).length - (x+1)<(dF m).length - x:=by omega
   have hz:(((dF m).take x).filter fun z:aa=> !z.ab.persistent).length+1<=60000:=by omega
   (conv=>whnf)
   refine au.2 ⟨_,cO hlt',?_⟩
   (conv=>whnf)
   refine aK (fun h=>?_) fun h=>?_
   . have h:(!(dF m)[x].ab.persistent)=true:=h;simp only[h,if_true]at hf
     (conv=>whnf)
     refine⟨(dF m)[x],rfl,?_⟩
     (conv=>whnf)
     refine ag.2 ⟨vL _ hz,?_⟩
     (conv=>whnf)
     refine ag.2 ⟨cu x (by omega),?_⟩
     (conv=>whnf)
     refine⟨(x+1:Nat),hlt',mu,?_⟩
     repeat' (first|exact trivial|exact rfl|((conv=>whnf);first|(apply aK<;>intro)|apply And.intro))
     all_goals ((conv=>whnf);rw[hf])
   . have h:(!(dF m)[x].ab.persistent)=false:=h;simp only[h,Ak,AB,Bu]at hf
     (conv=>whnf)
     refine ag.2 ⟨cu x (by omega),?_⟩
     (conv=>whnf)
     refine⟨(x+1:Nat),hlt',mu,?_⟩
     repeat' (first|exact trivial|exact rfl|((conv=>whnf);first|(apply aK<;>intro)|apply And.intro))
     all_goals ((conv=>whnf);rw[hf])
 . (conv=>whnf)
   refine⟨by rw[F9 (gQ hge)];rfl,?_⟩
   repeat' (first|exact trivial|exact rfl|((conv=>whnf);first|(apply aK<;>intro)|apply And.intro)))
end
section
section
variable [Inhabited aL]
end
theorem ji {w:World} {b o:Nat} {arr:Array Value} {ty:TypeId} {fz:Nat×Nat} (h:w.heap[b]? =some (.cells arr ty fz)):w.cell? ⟨b,o,none⟩=arr[o]? :=by simp[World.cell?,h]
theorem Om:gL mS:=⟨by decide,fun x hx=>(by cases hx),by decide,by decide⟩
end
def fW (n:Nat) (s:List aj):List (List aj):=match n with
 |0=>[]
 |n+1=>if s=[]then[]else s.take 64::fW n (s.drop 64)
def kr (v:Value):List Value:=[.int .i64 2, .string ⟨#[]⟩, .string ⟨#[]⟩, .string ⟨#[]⟩, .string ⟨#[]⟩, .bool false, .bool false, .bool false, .bool false, .int .i64 0, .int .i64 0, .int .i64 0,v]
def mo (L:List (List aj×Value)):List Value:=L.flatMap fun x=>kr x.2
theorem TK (L:List (List aj×Value)) (x:List aj×Value):mo (L++[x])=mo L++kr x.2:=by
 unfold mo;rw[Eb,DU,List.flatMap_nil,Bu]
theorem Jw:∀(n m:Nat) (s:List aj),s.length<=n->s.length<=m->fW n s=fW m s
 |0,m,s,h,_=>by
  have:s=[]:=AN.1 (EZ.1 h);subst this
  cases m<;>rfl
 |n+1,0,s,_,h=>by
  have:s=[]:=AN.1 (EZ.1 h);subst this;rfl
 |n+1,m+1,s,h1,h2=>by
  unfold fW;split
  . rfl
  . rename_i hne;have:0<s.length:=A4.2 hne;rw[Jw n m (s.drop 64) (by simp;omega) (by simp;omega)]
theorem Tn {s:List aj} {k Q:Nat} (hk:k<s.length) (hQ:Q=min (s.length - k) 64):fW (s.length - k) (s.drop k)=(s.drop k).take 64::fW (s.length - (k+Q)) (s.drop (k+Q)):=by
 obtain⟨n,hn⟩:∃n,s.length - k=n+1:=⟨s.length - k - 1,by omega⟩;have hne:s.drop k≠[]:=fun e=>by have:=Ap List.length e;simp at this;omega
 have hd:s.drop (k+64)=s.drop (k+Q):=by
  by_cases h:s.length - k<64
  . rw[DX (by omega),DX (by omega)]
  . congr 1;omega
 rw[hn];show(if s.drop k=[]then[]else(s.drop k).take 64::fW n ((s.drop k).drop 64))=_
 rw[if_neg hne,EG,hd];congr 1
 exact Jw _ _ _ (by rw[Bx];omega) (by rw[Bx];omega)
theorem I6 {W8 w9:World} {m:Nat} {v v9:Value} (hg:W8.grownBy w9 v.ownBlock) (hat:v9.ownBlock=v.ownBlock\/v9.ownBlock=some W8.heap.size) {l:List aj} {x:Value} (h:dH W8 (fun b=>m<=b/\some b≠v.ownBlock) l x):
   dH w9 (fun b=>m<=b/\some b≠v9.ownBlock) l x:=h.aX fun b hp hb=>by
 refine⟨⟨hp.1,?_⟩,hg.block b hb hp.2⟩;rcases hat with h|h
 . rw[h];exact hp.2
 . rw[h];intro e;cases e;exact absurd hb (Fj _)
theorem Qz:∃i0 z by0,Tryz.prog.info? 124=some i0/\i0.zero=some z/\i0.size=13/\i0.bytes=by0/\z.cells.size=13/\by0<=256:=by
 have h:(Tryz.prog.info? 124).map (fun i=>(i.zero.map (·.cells.size),i.size,decide (i.bytes<=256)))=some (some 13,13,true):=by kernel_rfl
 cases e:Tryz.prog.info? 124 with
 |none=>rw[e]at h;cases h
 |some i=>
  rw[e]at h;simp only[A8,AX,B5]at h;obtain⟨h1,h2,h3⟩:=h
  cases hz:i.zero with
  |none=>rw[hz]at h1;cases h1
  |some z=>rw[hz]at h1;exact⟨i,z,i.bytes,rfl,hz,h2,rfl,by simpa using h1,Bo h3⟩
theorem OV {w:World} {l:List aj} {v:Value} (h:cF w l v) (hl:l.length<=1000000):
  Calls Tryz.prog 125 #[v] w fun e w'=>∃v' L,e= .returned v'/\L.map (·.1)=fW ((cS bS l).length) (cS bS l)/\(∀x∈L,dH w' (fun b=>w.heap.size<=b) x.1 x.2)/\w'.ownsRow w.heap.size 124 13 v' L.length (mo L)/\Below w.heap.size w w':=by
 letI:Inhabited aL:=⟨⟨True,#[]⟩⟩
 have hsort:=HT h hl;obtain⟨s,hs⟩:∃s,cS bS l=s:=⟨_,rfl⟩;rw[hs]at hsort⊢;have hsl:s.length<=1000000:=by have:=sm (less:=bS) l [];rw[<-hs];unfold cS;simp at this;omega
 obtain⟨sa,sn,sc,rfl⟩:=h.one;go_enter Tryz.func125,Tryz.ntmps125
 go_wp2_with (go_at_call 156;refine hsort.mono ?_;rintro e w1 ⟨v1,rfl,hd1,hn1,hb1⟩)
 go_loopw [3,4] (fun v v4 wr=>∃(k:Nat) (L:List (List aj×Value)) (a4:Option Addr) (c4:Nat),k<=s.length/\L.length<=k/\v4= .slice a4 (s.length - k) c4/\(k<s.length->∃ob off cap arr ty fz,a4=some ⟨ob,off+k*3,none⟩/\c4=cap - k/\s.length<=cap/\w.heap.size<=ob/\w1.heap[ob]? =some (.cells arr ty fz)/\off+s.length*3<=arr.size/\
    ∀i (h:i<s.length),arr[off+i*3]? =some (.int .i64 s[i].dev)/\arr[off+i*3+1]? =some (.int .i64 s[i].inc)/\arr[off+i*3+2]? =some (.int .i64 s[i].seq))/\
    L.map (·.1)++fW (s.length - k) (s.drop k)=fW s.length s/\(∀x∈L,dH wr (fun b=>w.heap.size<=b/\some b≠v.ownBlock) x.1 x.2)/\wr.ownsRow w1.heap.size 124 13 v L.length (mo L)/\Below w1.heap.size w1 wr)
  (fun _ v4 _=>match v4 with| .slice _ n _=>n|_=>0)
 case atStart=>
  rcases hd1 with⟨rfl,a,c,rfl⟩|⟨ob,off,cap,arr,ty,fz,rfl,hob,hcap,hsz,hcells⟩
  . exact⟨0,[],a,c,Ai _,Ai _,rfl,fun h=>absurd h (Be _),rfl,fun x hx=>absurd hx (by simp),World.ownsRow_nil _ _ _ _,Below.refl _ _⟩
  . refine⟨0,[],_,cap,Aw _,Ai _,rfl,fun h0=>⟨ob,off,cap,arr,ty,fz,by rw[Ee,Bw],rfl,hcap,?_,hob,hsz,hcells⟩,rfl,fun x hx=>absurd hx (by simp),World.ownsRow_nil _ _ _ _,Below.refl _ _⟩;rcases hn1 with rfl|⟨b',off',k',c',he,hb'⟩
    . exact absurd h0 (Fj _)
    . cases he;exact hb'
 case round=>
  obtain⟨k,L,a4,c4,hk,hLk,rfl,hval,hL,hLd,hrow,hbr⟩:=hrel;by_cases hlt:k<s.length
  . obtain⟨ob,off,cap,arr,ty,fz,rfl,rfl,hcap,hob,harr,hasz,hcells⟩:=hval hlt;obtain⟨i4,z4,by4,hi4,hz40,hz41,hz42,hz43,hz44⟩:=Qz;obtain⟨Q,hQ⟩:∃Q,(min ((s.length - k:Nat):Int) 64).toNat=Q:=⟨_,rfl⟩;obtain⟨W,hW⟩:∃W,wr.alloc (.cells (kr (.slice (some ⟨ob,off+k*3,none⟩) Q Q)).toArray 124)=W:=⟨_,rfl⟩;have hbW:Below wr.heap.size wr W:=by rw[<-hW];exact(Below.refl _ _).alloc (Ai _) _
    have hnew:W.heap[wr.heap.size]? =some (.cells (kr (.slice (some ⟨ob,off+k*3,none⟩) Q Q)).toArray 124 (0,0)):=by rw[<-hW];exact World.alloc_heap_new _ _
    have hsW:W.heap.size=wr.heap.size+1:=by rw[<-hW];exact Dl _
    have hrowW:W.ownsRow w1.heap.size 124 13 u3 L.length (mo L):=by rw[<-hW];exact hrow.alloc _
    have hnc:∀j u,(kr (.slice (some ⟨ob,off+k*3,none⟩) Q Q))[j]? =some u->W.cell? ((⟨wr.heap.size,0,none⟩:Addr).add j)=some u:=fun j u hj=>by
      rw[Addr.add_lit,Ax,ji hnew,AW];exact hj
    have hone:∀u∈kr (.slice (some ⟨ob,off+k*3,none⟩) Q Q),u.oneCell'=true:=by simp[kr,Value.oneCell']
    have hLlen:L.length<=s.length:=Aq hLk hk;have hmax:L.length+1<=maxLen:=by unfold maxLen;omega
    have hbyt:(L.length+1)*by4<=140737488355328:=Aq (E9 (show L.length+1<=1000001 by omega) hz44) (by decide);have hbase:w1.heap.size<=W.heap.size:=Aq hbr.size hbW.size;have hLd':=hLd;have hL':=hL;clear hL hLd hs hsort hval;go_wp2_with (at_builtin;go_loud (refine KH (W':=W) hW ?_;refine wpList_append_own_at _ rfl _ _ 64 rfl w1.heap.size 124 i4 _ 13 by4 Tryz.underlying64 hi4 hz40 hz41 hz42 hz43 (by decide) u3 L.length (mo L) rfl hrowW ⟨wr.heap.size,0,none⟩ 1 1 (kr (.slice (some ⟨ob,off+k*3,none⟩) Q Q)) rfl rfl hnc hone hmax hbyt hbase ?_;intro v9 w9 hrow9 hg9 hnil9 hat9))
    have hQ':Q=min (s.length - k) 64:=by omega
    have hob1:=(Ae.1 harr).1;have hnr:some ob≠u3.ownBlock:=fun e=>by have:=(hrow.lt ob e.symm).1;omega
    have hWb:∀b,b<wr.heap.size->W.heap[b]? =wr.heap[b]? :=fun b hb=>hbW.block b hb
    have hlen:((s.drop k).take 64).length=Q:=by simp;omega
    have hnewD:dH W (fun b=>w.heap.size<=b/\some b≠u3.ownBlock) ((s.drop k).take 64) (.slice (some ⟨ob,off+k*3,none⟩) Q Q):=by
      refine .inr ⟨ob,off+k*3,Q,arr,ty,fz,by rw[hlen],⟨hob,hnr⟩,?_,by rw[hlen];exact Ai _,by rw[hlen];omega,fun i hi=>?_⟩
      . rw[hWb ob (AY hob1 hbr.size),hbr.block ob hob1];exact harr
      . have hi':k+i<s.length:=by rw[hlen]at hi;omega
        have hel:((s.drop k).take 64)[i]=s[k+i]:=by rw[Et,Df]
        rw[hel,show off+k*3+i*3=off+(k+i)*3 by omega];exact hcells (k+i) hi'
    refine⟨⟨k+Q,L++[((s.drop k).take 64, .slice (some ⟨ob,off+k*3,none⟩) Q Q)],_,_,by omega,by simp;omega,by rw[Nat.sub_sub],fun hlt2=>⟨ob,off,cap,arr,ty,fz,?_,by omega,hcap,hob,harr,hasz,hcells⟩,?_,fun x hx=>?_,?_,?_⟩,?_⟩
    . rw[if_neg (by omega),show off+k*3+Q*3=off+(k+Q)*3 by omega]
    . rw[<-hL',Tn hlt hQ',A1];simp
    . rcases A9.1 hx with hx|hx
      . exact I6 hg9 hat9 ((hLd' x hx).aX fun b hp hb=>⟨hp,hWb b hb⟩)
      . rw[BQ.1 hx];exact I6 hg9 hat9 hnewD
    . rw[TK,A5];exact hrow9
    . exact(hbr.trans (hbW.mono hbr.size)).grown hg9 hbase (fun j e=>(hrow.lt j e).1)
    . show s.length - k - Q<s.length - k;omega
  . have hks:k=s.length:=by omega
    subst hks;go_wp2;go_ret;rw[Nat.sub_self]at hL;refine⟨_,L,rfl,by simpa [fW]using hL,fun x hx=>(hLd x hx).aX fun b hp _=>⟨hp.1,rfl⟩,⟨hrow.1,?_⟩,hb1.trans (hbr.mono hb1.size)⟩;rcases hrow.2 with hn|⟨g,cap,cur,hv,hbg,rest⟩
    . exact .inl hn
    . exact .inr ⟨g,cap,cur,hv,Aq hb1.size hbg,rest⟩
section
structure dM where
 kind:Int
 item:aa
 over:List aj
def dM.enc (x:dM):List SV:=[.int .i64 x.kind, .str x.item.key.name, .str x.item.key.domain, .str x.item.key.path, .str x.item.ab.value, .bool x.item.ab.aG, .bool x.item.ab.aV, .bool x.item.ab.aH, .bool x.item.ab.persistent,
 .int .i64 x.item.ab.aQ, .int .i64 x.item.ab.aq, .int .i64 x.item.ab.access,cL x.over]
def oh (l:List dM):SV:= .ar dM l dM.enc
def mq (c:List aj):dM:=⟨2,bE,c⟩
def nW (l:List aj):List dM:=(fW (cS bS l).length (cS bS l)).map mq
theorem UG (L:List (List aj×Value)) (i:Nat) (h:i<L.length) (j:Nat) (hj:j<13):(mo L)[i*13+j]? =(kr L[i].2)[j]? :=by
 induction L generalizing i with
 |nil=>exact absurd h (Be _)
 | cons x L ih=>
  have hr:mo (x::L)=kr x.2++mo L:=by unfold mo;rw[DU]
  have hl:(kr x.2).length=13:=rfl;rw[hr]
  cases i with
  |zero=>rw[Ee,Ax,A3 (by omega)];rfl
  |succ i=>
   rw[Ba (by omega),hl,show(i+1)*13+j - 13=i*13+j by omega];exact ih i (by simpa using h)
section
variable [Inhabited aL]
theorem Oo {w:World} {p:Nat->Prop} {n:Nat} {L:List (List aj×Value)} {v:Value} (hp:∀b,p b->n<=b) (hd:∀x∈L,dH w p x.1 x.2) (h:w.ownsRow n 124 13 v L.length (mo L)):Up w n (oh (L.map fun x=>mq x.1)) v:=by
 unfold oh;obtain⟨hlen,hr⟩:=h;rcases hr with⟨rfl,h0⟩|⟨g,cap,cur,rfl,hpp,hb,hc,hm,hsz,htk⟩
 . exact .fN (by simpa using h0)
 . rw[show L.length=(L.map fun x=>mq x.1).length by simp];have cell:∀i (hi:i<L.length) j,j<13->cur[i*13+j]? =(kr L[i].2)[j]? :=fun i hi j hj=>by
     rw[<-UG L i hi j hj,<-htk,Bd,if_pos (by omega),A6]
   refine .ar g 0 cap cur 124 (0,0) 13 (fun i j=>(cur[i*13+j]?).getD (.bool false)) hpp hb (by decide) (by simp;omega) (fun _ _ _=>rfl) (by simpa using hc) (fun i x j v hx hv=>?_) (fun i x j v hx hv=>?_) (fun i x j v hx hv=>?_)
   . have hj:j<13:=(Ab.1 hv).1;match j,hj with
     |0,_|1,_|2,_|3,_|4,_|5,_|6,_|7,_|8,_|9,_|10,_|11,_|12,_=>cases hv;rfl
   all_goals
     have hil:i<L.length:=by simpa using(Ab.1 hx).1
     have hxe:mq L[i].1=x:=by simpa using(Ab.1 hx).2
     have hdi:=hd _ (AJ hil);have hj:j<13:=(Ab.1 hv).1;have hcl:=cell i hil j hj;subst hxe
   . rw[Ax,hcl,Af (show j<(kr L[i].2).length from hj)];rfl
   . show Up w n v ((cur[i*13+j]?).getD _)
     rw[hcl];match j,hj with
     |0,_|9,_|10,_|11,_=>cases hv;exact .int _ _
     |1,_|2,_|3,_|4,_=>cases hv;exact .str _
     |5,_|6,_|7,_|8,_=>cases hv;exact .bool _
     |12,_=>cases hv;exact L6 hp hdi
def K4:aN:={Y:=List aj,pre:=fun y=>y.length<=1000000,args:=fun y=>[cL y],res:=fun y=>oh (nW y)}
theorem UY (hdr:¬(default:aL).dr):CO Hu K4:=kD bC.ok (by
 rintro l hl w args hold ⟨h1,h2⟩;match args,h1 with
 |[v],_=>
 have e1:=uN (h2 0 _ _ rfl rfl);refine(OV e1 hl).mono ?_;rintro e w' ⟨v',L,rfl,hL,hd,hr,hb⟩;refine⟨_,rfl, .inr ?_,hb,fun h=>(hdr h).elim⟩;show Up w' w.heap.size (oh (nW l)) v'
 unfold nW;rw[<-hL,BJ];exact Oo (fun _ h=>h) hd hr)
def qd (l:List dM):Prop:=l.length<=100000/\ ∀d∈l,d.over.length<=64
noncomputable def GG (f:FuncId):Option aN:=bif Nat.beq f Hu then some K4 else bif Nat.beq f vH then some Ni else bif Nat.beq f ni then some xK else vh f
theorem KR (hdr:¬(default:aL).dr):∀f C,GG f=some C->CO f C:=bR (UY hdr) (bR (XZ hdr) (bR (CG hdr) (xo hdr)))
def NM:aN:={Y:=Nat×aJ×List dM,pre:=fun y=>ch y.1 y.2.1/\qd y.2.2,args:=fun y=>[.wp ⟨y.1,0,none⟩,oh y.2.2],res:=fun y=> .bool (decide (y.2.1.kept.length+y.2.2.length<=2048))}
def Pp (l:List dM):aI:={α:=Nat,ok:=fun i=>i<=l.length,μ:=fun i=>l.length - i,aX:=[0,1],aS:=fun i=>[(7,oh l),(8,i64 (Int.ofNat l.length)),(9,i64 i)],bw:=fun _=>[]}
theorem Zg (hdr:¬(default:aL).dr):CO GY NM:=bZ (cfg:=fun(y:Nat×aJ×List dM)=>cz GG (cD GY 2 (Pp y.2.2))) bC (fun _=>rfl) (fun _=>KR hdr) (n:=600) (by
 rintro⟨b,m,l⟩ ⟨hm,hl⟩;have hm:ch b m:=hm;have hl:qd l:=hl;have hl1:=hl.1
 (conv=>whnf)
 refine⟨⟨(0:Nat),Aw _,?_⟩,?_⟩
 . repeat' (first|exact trivial|exact rfl|((conv=>whnf);first|(apply aK<;>intro)|apply And.intro))
 intro (x:Nat) hx;have hx:x<=l.length:=hx
 (conv=>whnf)
 refine aK (fun hlt=>?_) fun hge=>?_
 . have hlt':x<l.length:=cB hlt;have hov:=hl.2 l[x] (AJ hlt')
   (conv=>whnf)
   refine au.2 ⟨_,cO hlt',?_⟩
   (conv=>whnf)
   refine aK (fun h=>?_) fun h=>?_
   . exfalso;have h:bI 64 (Int.ofNat l[x].over.length)=true:=h;rw[cr,Ad]at h;have h:(64:Int)<(l[x].over.length:Int):=h;omega
   . (conv=>whnf)
     refine ag.2 ⟨cu x (by omega),?_⟩
     (conv=>whnf)
     refine⟨(x+1:Nat),hlt',by show l.length - (x+1)<l.length - x;omega,?_⟩
     repeat' (first|exact trivial|exact rfl|((conv=>whnf);first|(apply aK<;>intro)|apply And.intro))
 . (conv=>whnf)
   refine⟨(b,m,l.length),?_⟩
   repeat ((conv=>whnf);first|refine⟨rfl,?_⟩|refine⟨trivial,?_⟩)
   refine⟨⟨hm,by show l.length<=1000000;omega⟩,?_⟩
   repeat' (first|exact trivial|exact rfl|((conv=>whnf);first|(apply aK<;>intro)|apply And.intro)))
end
end
section
theorem K8:∀(n:Nat) (s:List aj),(fW n s).length<=s.length
 |0,s=>Aw _
 |n+1,s=>by
  unfold fW;split
  . exact Aw _
  . rename_i h;have h1:=K8 n (s.drop 64);have h2:0<s.length:=A4.2 h;rw[Bx]at h1;rw[AA];omega
theorem IL:∀(n:Nat) (s:List aj),∀c∈fW n s,c.length<=64
 |0,s,c,h=>by cases h
 |n+1,s,c,h=>by
  unfold fW at h;split at h
  . cases h
  . rcases Aj.1 h with rfl|h
    . rw[Bi];omega
    . exact IL n _ c h
def de (m:aJ) (l:List aa):List aj:=l.flatMap fun x=>mU m x.key
theorem WX (l:List aj):(cS bS l).length<=l.length:=by
 letI:Inhabited aL:=⟨⟨True,#[]⟩⟩
 have:=sm (less:=bS) l [];unfold cS;simpa using this
theorem wy (l:List aj):(nW l).length<=l.length:=by unfold nW;rw[Bf];exact Aq (K8 _ _) (WX l)
theorem I3 {l:List aj} (h:l.length<=100000):qd (nW l):=by
 refine⟨Aq (wy l) h,fun d hd=>?_⟩;unfold nW at hd;obtain⟨c,hc,rfl⟩:=Au.1 hd;exact IL _ _ c hc
theorem CB {m:aJ} {a b:Nat} (hd:∀k,(mU m k).length<=b):∀{l:List aa},l.length<=a->(de m l).length<=a*b
 |[],h=>Aw _
 |x::l,h=>by
  obtain⟨c,rfl⟩:∃c,a=c+1:=⟨a - 1,by simp at h;omega⟩;have h1:=CB hd (a:=c) (l:=l) (by simpa using h);unfold de at h1⊢;rw[DU,A5,Nat.succ_mul];have:=hd x.key;omega
theorem JR {m:aJ} {l:List aa} {i:Nat} (h:i<l.length):de m (l.take (i+1))=de m (l.take i)++mU m l[i].key:=by
 unfold de;rw[AF h,Eb];simp
section
variable [Inhabited aL]
theorem xO (m:aJ) (k:aA):(mU m k).length<=m.kept.length:=by
 unfold mU;rw[Bf];exact Aq (AL _ _) (AL _ _)
def kn (m:aJ):List dM:=nW (de m (iF m))
noncomputable def GH (f:FuncId):Option aN:=bif Nat.beq f GY then some NM else GG f
theorem KT (hdr:¬(default:aL).dr):∀f C,GH f=some C->CO f C:=bR (Zg hdr) (KR hdr)
def NL:aN:={Y:=Nat×aJ,pre:=fun y=>ch y.1 y.2/\y.2.kept.length<=40,args:=fun y=>[.wp ⟨y.1,0,none⟩],res:=fun y=> .bG [oh (kn y.2),i64 0]}
def Ml (m:aJ) (l:List aa) (k:Nat):aI:={α:=Nat,ok:=fun i=>i<=l.length,μ:=fun i=>l.length - i,aX:=[0,2],aS:=fun i=>[(8, .own k),(12,ec l),(13,i64 (Int.ofNat l.length)),(14,i64 i)],bw:=fun i=>[(k, .arr aj (de m (l.take i)) aj.enc Ty.mA)]}
theorem Ze (hdr:¬(default:aL).dr):CO HM NL:=bZ (cfg:=fun(y:Nat×aJ)=>cz GH (cD vI 3 (Ml y.2 (iF y.2) 0))) bC (fun _=>rfl) (fun _=>KT hdr) (n:=900) (by
 rintro⟨b,m⟩ ⟨hm,hk⟩;have hm:ch b m:=hm;have hk:m.kept.length<=40:=hk;have hil:(iF m).length<=40:=by
   have h1:=Lj m;have h2:(iF m).length<=(dF m).length:=AL _ _;omega
 have hal:∀{l:List aa},l.length<=40->(de m l).length<=1600:=fun h=>CB (fun k=>Aq (xO m k) hk) h
 (conv=>whnf)
 refine⟨some (b,m),?_⟩
 repeat ((conv=>whnf);first|refine⟨rfl,?_⟩|refine⟨trivial,?_⟩)
 refine⟨hm,?_⟩
 (conv=>whnf)
 refine⟨⟨(0:Nat),Aw _,?_⟩,?_⟩
 . repeat' (first|exact trivial|exact rfl|((conv=>whnf);first|(apply aK<;>intro)|apply And.intro))
   all_goals exact au.2 ⟨_,rfl,ag.2 ⟨rfl,fun _=>rfl⟩⟩
 intro (x:Nat) hx;have hx:x<=(iF m).length:=hx
 (conv=>whnf)
 refine aK (fun hlt=>?_) fun hge=>?_
 . have hlt':x<(iF m).length:=cB hlt
   (conv=>whnf)
   refine au.2 ⟨_,cO hlt',?_⟩
   (conv=>whnf)
   refine⟨((some (b,m),(iF m)[x].key):Mp×aA),?_⟩
   repeat ((conv=>whnf);first|refine⟨rfl,?_⟩|refine⟨trivial,?_⟩)
   refine⟨hm,?_⟩
   (conv=>whnf)
   have hf:=JR (m:=m) hlt';have h1:=hal (l:=(iF m).take x) (by rw[Bi];omega);have h2:=Aq (xO m (iF m)[x].key) hk;refine⟨fun _=>⟨rfl,rfl⟩,mU m (iF m)[x].key,rfl,ag.2 ⟨y6 _ (by show(de m ((iF m).take x)).length+(mU m (iF m)[x].key).length<=600000;omega),?_⟩⟩
   (conv=>whnf)
   refine ag.2 ⟨cu x (by omega),?_⟩
   (conv=>whnf)
   refine⟨(x+1:Nat),hlt',by show(iF m).length - (x+1)<(iF m).length - x;omega,?_⟩
   repeat' (first|exact trivial|exact rfl|((conv=>whnf);first|(apply aK<;>intro)|apply And.intro))
   all_goals ((conv=>whnf);rw[hf])
 . have hge':(iF m).length<=x:=gr hge;have h1:=hal (l:=iF m) hil;have hrl:=wy (de m (iF m))
   (conv=>whnf)
   refine⟨de m (iF m),?_⟩
   (conv=>whnf)
   refine⟨by rw[Ay hge'],?_⟩
   repeat ((conv=>whnf);first|refine⟨rfl,?_⟩|refine⟨trivial,?_⟩)
   refine⟨by show(de m (iF m)).length<=1000000;omega,?_⟩
   (conv=>whnf)
   refine⟨(b,m,kn m),?_⟩
   repeat ((conv=>whnf);first|refine⟨rfl,?_⟩|refine⟨trivial,?_⟩)
   refine⟨⟨hm,I3 (by omega)⟩,?_⟩;have hfit:decide (m.kept.length+(kn m).length<=2048)=true:=Bg (by unfold kn;omega)
   (conv=>whnf)
   refine aK (fun h=>?_) fun h=>?_
   . have h:(!decide (m.kept.length+(kn m).length<=2048))=true:=h;rw[hfit]at h;cases h
   . repeat' (first|exact trivial|exact rfl|((conv=>whnf);first|(apply aK<;>intro)|apply And.intro)))
end
end
section
variable [Inhabited aL]
def jP (i:Nat) (c:List aj):ae:=⟨⟨63,1048576,(i:Int)+1⟩,⟨4398046511104,i,63⟩,2,bE.key,bE.ab,c⟩
structure py (c:List aj):Prop where
 ne:c≠[]
 le:c.length<=64
 dot:∀d∈c,fk d=true
 own:∀d∈c,¬(d.dev=63/\d.inc=1048576)
 up:c.Pairwise fun x y=>bS x y=true
theorem WL {i:Nat} {c:List aj} (h:py c) (hi:i<=60000):gm (jP i c)=true:=by
 unfold gm jP;have h1:fk ⟨63,1048576,(i:Int)+1⟩=true:=by
  simp only[fk,vi,fc,Aa,Ad];omega
 have h2:l9 ⟨4398046511104,i,63⟩=true:=by
  simp only[l9,lM,fc,Aa,Ad];omega
 have h3:iS ⟨63,1048576,(i:Int)+1⟩ c=true:=by
  unfold iS;rw[Aa,Ad,Ad];refine⟨h.le,fun j hj=>?_⟩;have hd:=h.dot c[j] (AJ hj);have ho:=h.own c[j] (AJ hj);have hu:∀(h0:0<j),bS c[j - 1] c[j]=true:=fun h0=>Bv.1 h.up (j - 1) j (by omega) hj (by omega)
  unfold jH;have e1:(decide (j=0)||bS (c[j - 1]'(by omega)) c[j])=true:=by
   by_cases h0:j=0
   . rw[Bg h0];rfl
   . rw[hu (by omega)];simp
  have e2:(c[j].dev==63&&c[j].inc==1048576)=false:=by
   rw[Av];intro e;rw[Aa,BP,BP]at e;exact ho e
  rw[hd,e1];show(true&&true&& !((c[j].dev==63&&c[j].inc==1048576)&&_))=true
  rw[e2];rfl
 have h4:bI 0 (Int.ofNat c.length)=true:=by
  rw[cr,Ad];have:=A4.2 h.ne;exact Int.ofNat_lt.2 this
 have h5:mW bE=true:=by unfold mW;exact Bg rfl
 have h6:((63:Int)==63)=true:=rfl;show(fk _&&l9 _&&((63:Int)==63)&&iS _ c&&(bif (2:Int)==2 then mW bE&&bI 0 (Int.ofNat c.length)else _))=true
 rw[h1,h2,h3,h4,h5];rfl
def mr (m:aJ) (i:Nat) (c:List aj):aJ:=⟨fZ m.ctx 63 1048576 ((i:Int)+1),fw m.kept (jP i c),cS bS (m.dead++c)⟩
theorem La {m:aJ} {i:Nat} {c:List aj} (h:py c) (hi:i<=60000) (hg:getM m.ctx 63 1048576=i) (hk:m.kept.length<2048):ey m (jP i c)=(mr m i c,true,0):=by
 have h2:eI m.ctx (jP i c).dot=false:=by
  unfold eI jP;show(fk _&&bV ((i:Int)+1) (getM m.ctx 63 1048576))=false
  rw[hg,fc,Br (by omega),B9]
 have h3:getM m.ctx (jP i c).dot.dev (jP i c).dot.inc+1=(jP i c).dot.seq:=by
  show getM m.ctx 63 1048576+1=(i:Int)+1
  rw[hg]
 unfold ey;rw[if_neg (by rw[WL h hi];decide),if_neg (by rw[h2];decide),if_neg (by rw[h3];simp),if_neg (by omega)];rfl
theorem WK {m:aJ} {i:Nat} {c:List aj}:ct (mr m i c)=(ct m).filter fun e=> !decide (e.dot∈c):=by
 unfold ct mr fw;rw[Dq,BG];have h0:lp ⟨fZ m.ctx 63 1048576 ((i:Int)+1),m.kept.take (kq m.kept (jP i c))++jP i c::m.kept.drop (kq m.kept (jP i c)),cS bS (m.dead++c)⟩ (jP i c)=false:=rfl;rw[h0];simp only[Ak,AB];rw[<-Dq,BV,BZ];refine B8 fun e _=>?_
 unfold lp;simp only[oN,A9];by_cases h1:e.dot∈m.dead<;>by_cases h2:e.dot∈c<;>simp[h1,h2]
theorem Y9 {m:aJ} {i:Nat} {c:List aj}:getM (mr m i c).ctx 63 1048576=((i+1:Nat):Int):=by
 unfold mr;rw[CU,if_pos ⟨rfl,rfl⟩];rfl
theorem Za {m:aJ} {i:Nat} {c:List aj}:(mr m i c).kept.length=m.kept.length+1:=by
 unfold mr fw;have:kq m.kept (jP i c)<=m.kept.length:=qF _ _;simp;omega
def dX (m:aJ):Nat->List (List aj)->aJ
 |_,[]=>m
 |i,c::cs=>dX (mr m i c) (i+1) cs
theorem J1:∀(cs:List (List aj)) (m:aJ) (i:Nat),ct (dX m i cs)=(ct m).filter fun e=> !decide (e.dot∈cs.flatten)
 |[],m,i=>(Bz.2 fun _ _=>by simp).symm
 |c::cs,m,i=>by
  rw[dX,J1 cs,WK,BZ];refine B8 fun e _=>?_
  by_cases h1:e.dot∈c<;>by_cases h2:e.dot∈cs.flatten<;>simp_all
theorem Jv:∀(n:Nat) (s:List aj),s.length<=n->(fW n s).flatten=s
 |0,s,h=>by
  have:s=[]:=AN.1 (EZ.1 h);subst this;rfl
 |n+1,s,h=>by
  unfold fW;split
  . rename_i h0;rw[h0];rfl
  . rename_i h0;have:0<s.length:=A4.2 h0;rw[List.flatten_cons,Jv n (s.drop 64) (by rw[Bx];omega),BV]
theorem K9:∀(n:Nat) (s:List aj),(∀d∈s,fk d=true)->(∀d∈s,¬(d.dev=63/\d.inc=1048576))->s.Pairwise (fun x y=>bS x y=true)->∀c∈fW n s,py c
 |0,s,_,_,_,c,h=>by cases h
 |n+1,s,h1,h2,h3,c,h=>by
  unfold fW at h;split at h
  . cases h
  . rename_i h0;rcases Aj.1 h with rfl|h
    . exact⟨by intro e;have:=Ap List.length e;have h4:=A4.2 h0;rw[Bi,AK]at this;omega,by rw[Bi];omega,fun d hd=>h1 d (Du hd),fun d hd=>h2 d (Du hd),h3.sublist (List.take_sublist _ _)⟩
    . exact K9 n _ (fun d hd=>h1 d (D8 hd)) (fun d hd=>h2 d (D8 hd)) (h3.sublist (ET _ _)) c h
theorem Tx {G:bn} {m:aJ} (g:cq G m) {e:ae} (h:e∈m.kept):fk e.dot=true/\(getM m.ctx 63 1048576=0->¬(e.dot.dev=63/\e.dot.inc=1048576)):=by
 have hh:=g.ctx e h;unfold eI at hh;rw[Aa]at hh;refine⟨hh.1,fun h0 hc=>?_⟩;have h2:=hh.2;rw[hc.1,hc.2,h0,fc,Ad]at h2;have h3:=hh.1;simp only[fk,fc,Aa,Ad]at h3;omega
theorem VA {m:aJ} {l:List aa} {d:aj} (h:d∈de m l):∃e∈m.kept,e.dot=d:=by
 unfold de at h;obtain⟨x,hx,hd⟩:=List.mem_flatMap.1 h;obtain⟨e,he,rfl⟩:=Au.1 hd;exact⟨e,(Ar.1 (cR.1 he).1).1,rfl⟩
end
section
def gV (w:World) (u:Value) (m:aJ):Prop:=∃vc vk vd,u= .agg #[vc,vk,vd]/\cF w m.ctx vc/\ff w m.kept vk/\cF w m.dead vd
theorem gV.cells {w w':World} (hc:jh w w') {u:Value} {m:aJ} (h:gV w u m):gV w' u m:=by
 obtain⟨vc,vk,vd,h1,h2,h3,h4⟩:=h;exact⟨vc,vk,vd,h1,h2.cells hc,h3.cells hc,h4.cells hc⟩
section
variable [Inhabited aL]
theorem ZO {w:World} {p:Nat->Prop} {g:Bool} {m:aJ} {u:Value} (h:Rd w p g (.agg m.enc) u):gV w u m:=by
 cases h with
 | @agg cs vs h1 h2=>
  obtain⟨l⟩:=vs;match l,h1 with
  |[x,y,z],_=>exact⟨x,y,z,rfl,uN (h2 0 _ _ rfl rfl),Nq (h2 1 _ _ rfl rfl),uN (h2 2 _ _ rfl rfl)⟩
theorem Y6 {w:World} {m:aJ} {u:Value} (h:gV w u m):Rd w (fun _=>True) true (.agg m.enc) u:=by
 obtain⟨vc,vk,vd,rfl,h1,h2,h3⟩:=h;refine .agg rfl fun i c x hc hx=>?_
 have hj:i<3:=(Ab.1 hc).1;match i,hj with
 |0,_=>cases hc;cases hx;exact uL h1
 |1,_=>cases hc;cases hx;exact uY h2
 |2,_=>cases hc;cases hx;exact uL h3
theorem Wf (m:aJ):∀c∈m.enc,Flat c:=by
 intro c hc;unfold aJ.enc at hc;simp only[Aj,BT,DB]at hc;rcases hc with rfl|rfl|rfl
 . exact uj _
 . exact uu _
 . exact uj _
def mn (d:aj):Bool:=d.dev==63&&(d.inc==1048576&&true)
def mX (m:aJ):Bool:= !(m.ctx.any mn)&& !(m.dead.any mn)
def NN:aN:={Y:=aJ,pre:=gL,args:=fun y=>[.agg y.enc],res:=fun y=> .bool (mX y)}
def YR (l:List aj):aI:={α:=Nat,ok:=fun i=>i<=l.length/\(l.take i).any mn=false,μ:=fun i=>l.length - i,aX:=[1],aS:=fun i=>[(3,i64 i)],bw:=fun _=>[]}
def YS (l:List aj):aI:={α:=Nat,ok:=fun i=>i<=l.length/\(l.take i).any mn=false,μ:=fun i=>l.length - i,aX:=[1],aS:=fun i=>[(4,i64 i)],bw:=fun _=>[]}
theorem JT {l:List aj} {i:Nat} (h:i<l.length):(l.take (i+1)).any mn=((l.take i).any mn||mn l[i]):=by
 rw[AF h,List.any_append];simp
theorem Zi:CO GQ NN:=bZ (cfg:=fun(y:aJ)=>cz Gs (l4 GQ 7 (YS y.dead) (cD GQ 2 (YR y.ctx)))) bC (fun _=>rfl) (fun _=>LU) (n:=900) (by
 intro (m:aJ) (hm:gL m);have h1:=hm.ctx;have h2:=hm.dead
 (conv=>whnf)
 refine⟨⟨(0:Nat),⟨Aw _,rfl⟩,?_⟩,?_⟩
 . repeat' (first|exact trivial|exact rfl|((conv=>whnf);first|(apply aK<;>intro)|apply And.intro))
 rintro(x:Nat) ⟨hx,hno⟩;have hx:x<=m.ctx.length:=hx
 (conv=>whnf)
 refine aK (fun hlt=>?_) fun hge=>?_
 . have hlt':x<m.ctx.length:=cB hlt;have hn:=JT hlt'
   (conv=>whnf)
   refine au.2 ⟨_,cO hlt',?_⟩
   (conv=>whnf)
   refine aK (fun h=>?_) fun h=>?_
   . have hf:mX m=false:=by
      have:m.ctx.any mn=true:=D6.2 ⟨_,AJ hlt',h⟩;unfold mX;rw[this];rfl
     (conv=>whnf)
     refine⟨hf.symm,?_⟩
     repeat' (first|exact trivial|exact rfl|((conv=>whnf);first|(apply aK<;>intro)|apply And.intro))
   . (conv=>whnf)
     refine ag.2 ⟨cu x (by omega),?_⟩
     (conv=>whnf)
     have h:mn m.ctx[x]=false:=h;refine⟨(x+1:Nat),⟨hlt',by rw[hn,hno,h];rfl⟩,by show m.ctx.length - (x+1)<m.ctx.length - x;omega,?_⟩
     repeat' (first|exact trivial|exact rfl|((conv=>whnf);first|(apply aK<;>intro)|apply And.intro))
 have hge':m.ctx.length<=x:=gr hge;rw[Ay hge']at hno
 (conv=>whnf)
 refine⟨⟨(0:Nat),⟨Aw _,rfl⟩,?_⟩,?_⟩
 . repeat' (first|exact trivial|exact rfl|((conv=>whnf);first|(apply aK<;>intro)|apply And.intro))
 rintro(x2:Nat) ⟨hx2,hno2⟩;have hx2:x2<=m.dead.length:=hx2
 (conv=>whnf)
 refine aK (fun hlt=>?_) fun hge=>?_
 . have hlt':x2<m.dead.length:=cB hlt;have hn:=JT hlt'
   (conv=>whnf)
   refine au.2 ⟨_,cO hlt',?_⟩
   (conv=>whnf)
   refine aK (fun h=>?_) fun h=>?_
   . have hf:mX m=false:=by
      have:m.dead.any mn=true:=D6.2 ⟨_,AJ hlt',h⟩;unfold mX;rw[this];simp
     (conv=>whnf)
     refine⟨hf.symm,?_⟩
     repeat' (first|exact trivial|exact rfl|((conv=>whnf);first|(apply aK<;>intro)|apply And.intro))
   . (conv=>whnf)
     refine ag.2 ⟨cu x2 (by omega),?_⟩
     (conv=>whnf)
     have h:mn m.dead[x2]=false:=h;refine⟨(x2+1:Nat),⟨hlt',by rw[hn,hno2,h];rfl⟩,by show m.dead.length - (x2+1)<m.dead.length - x2;omega,?_⟩
     repeat' (first|exact trivial|exact rfl|((conv=>whnf);first|(apply aK<;>intro)|apply And.intro))
 have hge2:m.dead.length<=x2:=gr hge;rw[Ay hge2]at hno2;have hf:mX m=true:=by unfold mX;rw[hno,hno2];rfl
 (conv=>whnf)
 refine⟨hf.symm,?_⟩
 repeat' (first|exact trivial|exact rfl|((conv=>whnf);first|(apply aK<;>intro)|apply And.intro)))
theorem Wi {m:aJ} (h:mX m=true):getM m.ctx 63 1048576=0:=by
 unfold mX at h;rw[Aa]at h;have h1:m.ctx.any mn=false:=by simpa using h.1
 unfold getM;rw[Ek.2 fun x hx=>?_];have:=List.any_eq_false.1 h1 x hx;exact this
end
end
structure iu (b0:Nat) (w w':World):Prop where
 same:∀i,i≠b0->w'.heap[i]? =w.heap[i]?
 bare:∀arr e fz,w.heap[b0]? =some (.cells arr e fz)->∀(i:Nat) (k:IntKind) (z:Int),arr[i]? ≠some (Value.int k z)
theorem cF.box {w w':World} {b0:Nat} (hb:iu b0 w w') {l:List aj} {v:Value} (h:cF w l v):cF w' l v:=by
 rcases h with h|⟨b,off,cap,arr,e,fz,rfl,h2,h3,h4,h5⟩
 . exact .inl h
 . by_cases h0:l=[]
   . subst h0;exact .inl ⟨rfl,_,_,rfl⟩
   . refine .inr ⟨b,off,cap,arr,e,fz,rfl,?_,h3,h4,h5⟩;rw[hb.same b fun eb=>?_]
     . exact h2
     . subst eb;exact hb.bare arr e fz h2 _ _ _ (h5 0 (A4.2 h0)).1
theorem ff.box {w w':World} {b0:Nat} (hb:iu b0 w w') {l:List ae} {v:Value} (h:ff w l v):ff w' l v:=by
 rcases h with h|⟨b,off,cap,arr,e,fz,rfl,h2,h3,h4,h5⟩
 . exact .inl h
 . by_cases h0:l=[]
   . subst h0;exact .inl ⟨rfl,_,_,rfl⟩
   . refine .inr ⟨b,off,cap,arr,e,fz,rfl,?_,h3,h4,fun i hi=>by obtain⟨u,k1,k2⟩:=h5 i hi;exact⟨u,k1,k2.box hb⟩⟩;rw[hb.same b fun eb=>?_]
     . exact h2
     . subst eb;obtain⟨u,k1,_⟩:=h5 0 (A4.2 h0);exact hb.bare arr e fz h2 _ _ _ (k1 0 (by omega))
theorem gV.box {w w':World} {b0:Nat} (hb:iu b0 w w') {u:Value} {m:aJ} (h:gV w u m):gV w' u m:=by
 obtain⟨vc,vk,vd,h1,h2,h3,h4⟩:=h;exact⟨vc,vk,vd,h1,h2.box hb,h3.box hb,h4.box hb⟩
theorem cT.box {w w':World} {n b bk ba bd bs bv b0:Nat} {G:bn} (h:cT w n b bk ba bd bs bv G) (hb:iu b0 w w') (h0:b0<n):cT w' n b bk ba bd bs bv G:=by
 have hl:=h.low;simp only[Aj,Au]at hl;have ne:∀j,n<=j->w'.heap[j]? =w.heap[j]? :=fun j hj=>hb.same j (by omega)
 exact⟨eF h.c0 (ne _ (hl _ (.inl rfl))),eF h.c1 (ne _ (hl _ (.inl rfl))),eF h.c2 (ne _ (hl _ (.inl rfl))),eF h.c3 (ne _ (hl _ (.inl rfl))),eF h.cv (ne _ (hl _ (.inr (.inl rfl)))),
  h.iz.same (ne _ (hl _ (.inr (.inr (.inl rfl))))),h.ma.same (ne _ (hl _ (.inr (.inr (.inr (.inl rfl)))))),h.md.same (ne _ (hl _ (.inr (.inr (.inr (.inr (.inl rfl))))))),h.mv.same (ne _ (hl _ (.inr (.inr (.inr (.inr (.inr (.inl rfl)))))))),
  fun x hx=>(h.mi x hx).same (ne _ (hl _ (.inr (.inr (.inr (.inr (.inr (.inr ⟨x,hx,rfl⟩)))))))),h.nd,h.low,fun x hx=>by obtain⟨v,k1,k2⟩:=h.ev x hx;exact⟨v,k1,k2.box hb⟩⟩
theorem rT {w:World} {b o:Nat} {arr:Array Value} {ty:TypeId} {fz:Nat×Nat} (h:w.heap[b]? =some (.cells arr ty fz)) (v:Value):(w.setCell ⟨b,o,none⟩ v).heap[b]? =some (.cells (arr.setIfInBounds o v) ty fz):=by
 have h4:=(Ae.1 h).2;simp only[World.setCell,Dr,h];simp
theorem Cl {w:World} {b o:Nat} {arr:Array Value} {ty:TypeId} (h:w.heap[b]? =some (.cells arr ty (0,0))):w.frozen? ⟨b,o,none⟩=false:=by simp[World.frozen?,h]
theorem Nv {w:World} {b:Nat} (h:w.heap[b]? =some (.cells #[.slice none 0 0, .slice none 0 0, .slice none 0 0] 45 (0,0))) (x y z:Value):∃W1 W2 W3,w.setCell ⟨b,0,none⟩ x=W1/\W1.setCell ⟨b,1,none⟩ y=W2/\W2.setCell ⟨b,2,none⟩ z=W3/\
   w.cell? ⟨b,0,none⟩=some (.slice none 0 0)/\w.frozen? ⟨b,0,none⟩=false/\W1.cell? ⟨b,1,none⟩=some (.slice none 0 0)/\W1.frozen? ⟨b,1,none⟩=false/\W2.cell? ⟨b,2,none⟩=some (.slice none 0 0)/\W2.frozen? ⟨b,2,none⟩=false/\
   W3.cell? ⟨b,0,none⟩=some x/\W3.cell? ⟨b,1,none⟩=some y/\W3.cell? ⟨b,2,none⟩=some z/\iu b w W3/\ ∀B,B<=b->Below B w W3:=by
 have h1:=rT (o:=0) h x;have h2:=rT (o:=1) h1 y;have h3:=rT (o:=2) h2 z;refine⟨_,_,_,rfl,rfl,rfl,ji h,Cl h,ji h1,Cl h1,ji h2,Cl h2,ji h3,ji h3,ji h3,⟨fun i hi=>?_,fun arr e fz ha i k q=>?_⟩,fun B hB=>?_⟩
 . rw[Below.heap_setCell _ _ _ _ hi,Below.heap_setCell _ _ _ _ hi,Below.heap_setCell _ _ _ _ hi]
 . rw[h]at ha
   cases ha;match i with
   |0|1|2=>intro e;cases e
   |_+3=>intro e;cases e
 . exact(((Below.refl B w).setCell hB x).setCell hB y).setCell hB z
theorem NV {w:World} {b:Nat} {x y z:Value} (h0:w.cell? ⟨b,0,none⟩=some x) (h1:w.cell? ⟨b,1,none⟩=some y) (h2:w.cell? ⟨b,2,none⟩=some z):(loadVar 45 ⟨b,0,none⟩).run Tryz.prog w= .ok (.agg #[x,y,z]) w:=by
 have h:w.rangeAt b 0 [x,y,z]:=fun j v hj=>by
  match j with
  |0=>cases hj;exact h0
  |1=>cases hj;exact h1
  |2=>cases hj;exact h2
  |_+3=>cases hj
 exact run_loadVar_mid w b 0 45 [x,y,z] _ h Tryz.underlying45 rfl (by kernel_rfl)
theorem Rb {fn:Func} {s t:Tmp} {ty:TypeId} (h:fn.results=#[.tmp s, .cell t ty]) {tmps:Array Value} {w:World} {a:Addr} {v:Value} (hp:tmps.getD t undef= .pointer (some a)) (hl:(loadVar ty a).run Tryz.prog w= .ok v w):(results fn tmps).run Tryz.prog w= .ok (.tuple #[tmps.getD s undef,v]) w:=by
 have hp':tmps[t]?.getD undef= .pointer (some a):=by simpa using hp
 simp[results,h,asAddr,hp',hl]
theorem cT.mono {w:World} {n k b bk ba bd bs bv:Nat} {G:bn} (h:cT w n b bk ba bd bs bv G) (hk:k<=n):cT w k b bk ba bd bs bv G:={h with low:=fun j hj=>Aq hk (h.low j hj)}
theorem Tryz.fold {l:List ae} {v:Value} {w:World} (hv:ff w l v) (hl:te l):Calls Tryz.prog 16 #[v] w fun e w'=>∃u,e= .returned u/\gV w' u (dV l)/\Below w.heap.size w w':=by
 letI:Inhabited aL:=⟨⟨True,#[]⟩⟩
 have h:=lV bC.ok Mr (fn:=Tryz.f16) (hfn:=by kernel_rfl) (hb:=rfl) (y:=l) hl (args:=[v]) (w:=w) (PL.cons (Yf (uu l) (uY hv)) PL.nil) (dd.px rfl _);refine Calls.mono h ?_;rintro e w' ⟨u,rfl,hu,hb,_⟩;exact⟨u,rfl,ZO hu,hb⟩
theorem QN {l:List ae} {v:Value} {w:World} (hv:ff w l v) (hlt:te l) (hl30:l.length<=30):
  Calls Tryz.prog 28 #[v] w fun e w'=>∃b bk ba bd bs bv G u,e= .returned (.tuple #[.pointer (some ⟨b,0,none⟩),u])/\cT w' w.heap.size b bk ba bd bs bv G/\cq G (dV l)/\gV w' u (dV l)/\Below w.heap.size w w':=by
 obtain⟨sa,sc,rfl⟩:=hv.one;obtain⟨W0,hW0⟩:∃W0,w.alloc (.cells #[.slice none 0 0, .slice none 0 0, .slice none 0 0] 45)=W0:=⟨_,rfl⟩;have hbW0:Below w.heap.size w W0:=by rw[<-hW0];exact(Below.refl _ _).alloc (Ai _) _
 have sW0:W0.heap.size=w.heap.size+1:=by rw[<-hW0];exact Dl _
 have hbx:W0.heap[w.heap.size]? =some (.cells #[.slice none 0 0, .slice none 0 0, .slice none 0 0] 45 (0,0)):=by rw[<-hW0];exact World.alloc_heap_new _ _
 have hv0:=hv.cells (eu hbW0);have hnew:=H9 W0;go_enter Tryz.func28,Tryz.ntmps28
 go_wp2_with (go_at_call 14;refine hnew.mono ?_;rintro e w2 ⟨b,bk,ba,bd,bs,bv,rfl,hO,hb2⟩)
 have hv2:=hv0.cells (eu hb2);go_loopw [5] (fun i wr=>∃(k:Nat) (G:bn),k<=l.length/\i= .int .i64 k/\ff wr l (.slice sa l.length sc)/\cT wr W0.heap.size b bk ba bd bs bv G/\cq G (dV (l.take k))/\Below W0.heap.size W0 wr)
  (fun i _=>l.length - (intOf i).toNat)
 case atStart=>exact⟨0,_,Aw _,rfl,hv2,hO,cq.start,hb2⟩
 case round=>
  obtain⟨k,G,hk,rfl,hvr,hOr,hgr,hbr⟩:=hrel;by_cases hlt2:k<l.length
  . obtain⟨bb,off,cap,arr,ty,fz,hsl,hbb,hcap,hsz,hcells⟩:=hvr.resolve_left (fun h=>by rw[h.1]at hlt2;exact absurd hlt2 (Be _));simp only[Value.slice.injEq]at hsl;obtain⟨rfl, -,rfl⟩:=hsl;obtain⟨u,hcu,hdu⟩:=hcells k hlt2;have hld:=OU hbb hcu;have hlk:=hlt.2 l[k] (AJ hlt2);obtain⟨hsm,hov⟩:= @uf ⟨⟨True,#[]⟩⟩ _ hlk;have hok:gL (dV (l.take k)):= @ed.ok ⟨⟨True,#[]⟩⟩ _ _ (@rX ⟨⟨True,#[]⟩⟩ l hlt.2 k hk) (by omega);have happ:=Tryz.apply hOr hgr hbr.size (e:=l[k]) (u:=gS l[k] u) ⟨u,rfl,hdu⟩ hsm (by omega) hok;obtain⟨SZ,mm,hSZ,hsz2,hm⟩:=uv;obtain⟨cs,hcs⟩:∃cs:Array Value,(cX l[k] u).toArray=cs:=⟨_,rfl⟩;have hcz:cs.size=mm:=by rw[<-hcs];exact(show(19:Nat)=mm from Eq.symm hm)
    rw[show gS l[k] u= .agg cs from by rw[<-hcs];rfl]at happ;rw[hcs,<-(hm:mm=19)]at hld;clear hbx;go_wp2_with (go_at_call 15;refine happ.mono ?_;rintro e wn ⟨rfl,hbn,hcn,G',hO',hg'⟩)
    exact⟨⟨k+1,G',hlt2,by go_num,hvr.cells hcn,hO',by rw[@S0 ⟨⟨True,#[]⟩⟩ l k hlt2];exact hg',hbr.trans hbn⟩,by simp[intOf];omega⟩
  . have hkl:k=l.length:=by omega
    subst hkl;rw[Bp]at hgr;have hfold:=Tryz.fold hvr hlt;have hbxr:=(hbr.block _ (Ae.1 hbx).1).trans hbx;go_wp2_with (go_at_call 16;refine hfold.mono ?_;rintro e w3 ⟨u,rfl,⟨vc,vk,vd,rfl,hm1,hm2,hm3⟩,hb3⟩;have hbx3:=(hb3.block _ (Ae.1 hbxr).1).trans hbxr;obtain⟨ca,na,pa,rfl⟩:=hm1.one;obtain⟨ck,pk,rfl⟩:=hm2.one;obtain⟨cd,nd,pd,rfl⟩:=hm3.one;obtain⟨W1,W2,W3,e1,e2,e3,c0,f0,c1,f1,c2,f2,g0,g1,g2,hbb,hbel⟩:=Nv hbx3 (.slice ca na pa) (.slice ck (dV l).kept.length pk) (.slice cd nd pd);clear hbx3)
    refine bodyPost_ret (Rb rfl rfl (NV g0 g1 g2)) rfl ?_;have hm:gV W3 (.agg #[.slice ca na pa, .slice ck (dV l).kept.length pk, .slice cd nd pd]) (dV l):=⟨_,_,_,rfl,hm1.box hbb,hm2.box hbb,hm3.box hbb⟩;have hO3:=(hOr.below hb3).box hbb (show w.heap.size<W0.heap.size by omega);refine⟨b,bk,ba,bd,bs,bv,G,_,rfl,hO3.mono (by omega),hgr,hm,?_⟩;have h1:=Aq hbW0.size hbr.size;exact((hbW0.trans (hbr.mono hbW0.size)).trans (hb3.mono h1)).trans (hbel _ (Ai _))
def ja (w:World) (cs:List (List aj)) (v:Value):Prop:=(cs=[]/\ ∃a c,v= .slice a 0 c)\/ ∃b off cap arr e fz,v= .slice (some ⟨b,off,none⟩) cs.length cap/\w.heap[b]? =some (.cells arr e fz)/\cs.length<=cap/\off+cs.length*13<=arr.size/\
 ∀i (h:i<cs.length),∃u,(∀j,j<13->arr[off+i*13+j]? =(kr u)[j]?)/\cF w cs[i] u
theorem ja.cells {w w':World} (hc:jh w w') {l:List (List aj)} {v:Value} (h:ja w l v):ja w' l v:=by
 rcases h with h|⟨b,off,cap,arr,e,fz,h1,h2,h3,h5,h4⟩
 . exact .inl h
 . exact .inr ⟨b,off,cap,arr,e,fz,h1,hc _ _ _ _ h2,h3,h5,fun i hi=>by obtain⟨u,k1,k2⟩:=h4 i hi;exact⟨u,k1,k2.cells hc⟩⟩
theorem ja.one {w:World} {l:List (List aj)} {v:Value} (h:ja w l v):∃a c,v= .slice a l.length c:=by
 rcases h with⟨rfl,a,c,rfl⟩|⟨b,off,cap,arr,e,fz,rfl,_⟩<;>exact⟨_,_,rfl⟩
theorem Zb [Inhabited aL] {w:World} {p:Nat->Prop} {g:Bool} {l:List (List aj)} {v:Value} (h:Rd w p g (oh (l.map mq)) v):ja w l v:=by
 unfold oh at h;generalize hL:l.map mq=L at h
 have hlen:L.length=l.length:=by rw[<-hL];simp
 cases h with
 |fN h0=>exact .inl ⟨AN.1 (by omega),_,_,rfl⟩
 |bX h h0 a c=>exact .inl ⟨AN.1 (by omega),_,_,rfl⟩
 |ar b off cap arr e fz sz u hp hb hs hl hn hc h1 h2=>
  by_cases h0:l=[]
  . subst h0;exact .inl ⟨rfl,_,_,by rw[hlen];rfl⟩
  . have hx:∀i (hi:i<l.length),L[i]? =some (mq l[i]):=fun i hi=>by rw[<-hL,Az,Af hi];rfl
    have hsz:sz=13:=(hn 0 _ (hx 0 (A4.2 h0))).symm;subst hsz;refine .inr ⟨b,off,cap,arr,e,fz,by rw[hlen],hb,by rw[<-hlen];exact hc,by rw[<-hlen];exact hl,fun i hi=>?_⟩;have key:∀(j:Nat) s,(dM.enc (mq l[i]))[j]? =some s->arr[off+i*13+j]? =some (u i j)/\Rd w p g s (u i j):=fun j s hs=>⟨h1 i _ j s (hx i hi) hs,h2 i _ j s (hx i hi) hs⟩
    refine⟨u i 12,fun j hj=>?_,uN (key 12 _ rfl).2⟩;match j,hj with
    |0,_|9,_|10,_|11,_=>rw[(key _ _ rfl).1,ik (key _ _ rfl).2];rfl
    |1,_|2,_|3,_|4,_=>rw[(key _ _ rfl).1,oQ (key _ _ rfl).2];rfl
    |5,_|6,_|7,_|8,_=>rw[(key _ _ rfl).1,qC (key _ _ rfl).2];rfl
    |12,_=>rw[(key _ _ rfl).1];rfl
    |_+13,h=>exact absurd h (by omega)
theorem Lb {m:aJ} {cs:List (List aj)} {i:Nat} (h:i<cs.length):dX m 0 (cs.take (i+1))=mr (dX m 0 (cs.take i)) i cs[i]:=by
 have key:∀(cs:List (List aj)) (m:aJ) (k i:Nat) (h:i<cs.length),dX m k (cs.take (i+1))=mr (dX m k (cs.take i)) (k+i) cs[i]:=by
  intro cs;induction cs with
  |nil=>intro m k i h;exact absurd h (Be _)
  | cons c cs ih=>
   intro m k i h
   cases i with
   |zero=>rfl
   |succ i=>
    have hi:i<cs.length:=by simpa using h
    have:=ih (mr m k c) (k+1) i hi;rw[show k+1+i=k+(i+1) by omega]at this;exact this
 have:=key cs m 0 i h;rwa [Ax]at this
theorem Ce [Inhabited aL] {m:aJ} {cs:List (List aj)} {n:Nat} (hb:ed m n) (h0:getM m.ctx 63 1048576=0) (hcs:∀c∈cs,py c) (h1:m.kept.length+cs.length<=2048):∀i,i<=cs.length->ed (dX m 0 (cs.take i)) (n+i)/\getM (dX m 0 (cs.take i)).ctx 63 1048576=(i:Int)/\(dX m 0 (cs.take i)).kept.length=m.kept.length+i
 |0,_=>⟨hb,h0,rfl⟩
 |i+1,hi=>by
  obtain⟨k1,k2,k3⟩:=Ce hb h0 hcs h1 i (by omega);have hc:=hcs cs[i] (AJ (by omega));have ha:=La (m:=dX m 0 (cs.take i)) hc (by omega) k2 (by omega);have hb2:=IQ (e:=jP i cs[i]) k1 (show cs[i].length<=100 by have:=hc.le;omega);rw[ha]at hb2;rw[Lb (by omega)];exact⟨hb2,Y9,by rw[Za,k3];omega⟩
end Go.Proofs
