/- Part 13: an evaluator, proved sound, and its use at this seat; no condition. -/
import Derived.WalkKit
import Derived.LoopTactic
import Derived.Deep.RegionHeld3
import Derived.Test.YtggljmdeadplkaaGreatP8
import Derived.Test.YtggljmdeadplkaaGreatP9
import Derived.Test.YtggljmdeadplkaaGreatP12
set_option linter.unusedSimpArgs false
set_option linter.unusedVariables false
set_option linter.unusedSectionVars false
set_option linter.deprecated false
set_option maxRecDepth 100000
set_option maxHeartbeats 40000000
namespace Go.Proofs
open Go Go.Am Go.RowKit Go.Sy
section
variable [Inhabited aI]
end
end Go.Proofs
namespace Go.Proofs
open Go Go.Am Go.RowKit Go.Sy Go.Gm Go.Maps Go.Sort Go.Shelf
section
theorem NV {w:World} {n:Nat} {l:List ak} {v:Value} (h:cU w n l v):Up w n (cf l) v:=by
 unfold cf;rcases h with⟨rfl,a,c,rfl⟩|⟨b,cap,arr,rfl,hp,hb,hc,hl,hi⟩
 . exact .bT rfl a c
 . refine .aH b 0 cap arr 71 (0,0) 3 (fun i j=>(arr[i*3+j]?).getD (.bool false)) hp hb (by decide) (by omega) (fun _ _ _=>rfl) hc (fun i x j v hx hv=>?_) (fun i x j v hx hv=>?_) (fun i x j v hx hv=>?_)
   all_goals
    have hil:i<l.length:=(Ah.1 hx).1;have hxe:l[i]=x:=(Ah.1 hx).2;obtain⟨e0,e1,e2⟩:=hi i hil;rw[hxe]at e0 e1 e2;have hj:j<3:=(Ah.1 hv).1;match j,hj with
    |0,_=>cases hv;first|rfl|exact(by rw[AG,BJ,e0];rfl)|(simp only[BJ,e0,Bl];exact .int _ _)
    |1,_=>cases hv;first|rfl|exact(by rw[AG,e1];rfl)|(simp only[e1,Bl];exact .int _ _)
    |2,_=>cases hv;first|rfl|exact(by rw[AG,e2];rfl)|(simp only[e2,Bl];exact .int _ _)
theorem Pd {w:World} {n:Nat} {l:List ae} {v:Value} (h:iX w n l v):Up w n (eM l) v:=by
 unfold eM;obtain⟨L,rfl,hd,hlen,hr⟩:=h;rcases hr with⟨rfl,h0⟩|⟨g,cap,cur,rfl,hp,hb,hc,hm,hsz,htk⟩
 . exact .jc (by simpa using h0)
 . rw[show L.length=(L.map (·.1)).length by simp];have cell:∀i (hi:i<L.length) j,j<19->cur[i*19+j]? =(cq L[i].1 L[i].2)[j]? :=fun i hi j hj=>by
     rw[<-E2 L i hi j hj,<-htk,Bh,An (by omega),BS]
   refine .aH g 0 cap cur 75 (0,0) 19 (fun i j=>(cur[i*19+j]?).getD (.bool false)) hp hb (by decide) (by simp;omega) (fun _ _ _=>rfl) (by simpa using hc) (fun i x j v hx hv=>?_) (fun i x j v hx hv=>?_) (fun i x j v hx hv=>?_)
   . have hj:j<19:=(Ah.1 hv).1;match j,hj with
     |0,_|1,_|2,_|3,_|4,_|5,_|6,_|7,_|8,_|9,_|10,_|11,_|12,_|13,_|14,_|15,_|16,_|17,_|18,_=>cases hv;rfl
   all_goals
     have hil:i<L.length:=by simpa using(Ah.1 hx).1
     have hxe:L[i].1=x:=by simpa using(Ah.1 hx).2
     have hdi:=hd _ (Au hil);rw[hxe]at hdi;have hj:j<19:=(Ah.1 hv).1;have hcl:=cell i hil j hj;rw[hxe]at hcl
   . rw[AG,hcl,Af (show j<(cq x L[i].2).length from hj)];rfl
   . show Up w n v ((cur[i*19+j]?).getD _)
     rw[hcl];match j,hj with
     |0,_|1,_|2,_|3,_|4,_|5,_|6,_|15,_|16,_|17,_=>cases hv;exact .int _ _
     |7,_|8,_|9,_|10,_=>cases hv;exact .str _
     |11,_|12,_|13,_|14,_=>cases hv;exact .bool _
     |18,_=>cases hv;exact NV hdi
variable [Inhabited aI]
structure eC (b:Nat) (m:bB):Prop where
 ok:iK m
 over:∀e∈m.kept,e.over.length<=100000
 at_:OR fun w=>∃n bk ba bd bs bv G,cB w n b bk ba bd bs bv G/\dW G m
end
section
variable [Inhabited aI]
end
theorem KA {w:World} {n m:Nat} {l:List ae} {v:Value} (h:iX w n l v) (hm:m<=n):iX w m l v:=by
 obtain⟨L,h1,h2,h3,h4⟩:=h;refine⟨L,h1,fun x hx=>(h2 x hx).mono hm,h3,?_⟩;rcases h4 with hn|⟨g,cap,cur,hv,hbg,rest⟩
 . exact .inl hn
 . exact .inr ⟨g,cap,cur,hv,AW hm hbg,rest⟩
theorem PT {w:World} {n b bk ba bd bs bv:Nat} {G:bC} (h:cB w n b bk ba bd bs bv G) (f:ak->ae) (hI:G.kept.length<=1000000)
  (hf:∀d∈G.kept.map (·.1),∃u,az G.kept d=some (u,f d)) (hov:∀d∈G.kept.map (·.1),(f d).over.length<=100000):
  Calls Tryz.prog 32 #[.pointer (some ⟨b,0,none⟩)] w fun e w'=>∃v',e= .returned v'/\iX w' w.heap.size ((de bR (G.kept.map (·.1))).map f) v'/\Below w.heap.size w w':=by
 letI:Inhabited aI:=⟨⟨True,#[]⟩⟩
 obtain⟨i0,hi,hz0,hz1,hz2⟩:=G4;have hc0:=h.c0;go_enter Tryz.func32,Tryz.ntmps32
 go_wp2_with (first
  |(at_range;refine Ij _ rfl _ 83 rfl Tryz.underlying83 bk rfl h.gp ?_;intro W1 hit hb1 hs1)
  |go_in)
 go_frame
 go_loopw [3] (fun v wr=>∃(ss left:List (ak×(Value×ae))),cw wr w.heap.size bk aX iU G.kept ss left/\ss.length+left.length=G.kept.length/\wr.ownsRow W1.heap.size 71 3 v ss.length (fa (ss.map (·.1)))/\Below w.heap.size w wr/\W1.heap.size<=wr.heap.size)
  (fun _ wr=>wr.rangeLeft bk w.heap.size)
 case atStart=>exact⟨[],G.kept,hit,by simp,World.ownsRow_nil _ _ _ _,hb1,Aj _⟩
 case round=>
  obtain⟨ss,left,hrg,hcs,hrow,hbr,hbig⟩:=hrel;go_wp2_with (first
    |(at_next;refine Ic _ rfl _ rfl w.heap.size bk rfl hrg ?_ ?_)
    |go_in)
  . intro hl0 hperm;have hpk:(ss.map (·.1)).Perm (G.kept.map (·.1)):=hperm.map _;have hsl:(ss.map (·.1)).length<=1000000:=by rw[hpk.length_eq,BT];exact hI
    have hrow':wr.ownsRow W1.heap.size 71 3 u3 (ss.map (·.1)).length (fa (ss.map (·.1))):=by rw[BT];exact hrow
    have hcall:=Tryz.sorted (h.below hbr) (zu hrow').cf hsl f (fun d hd=>hf d (hpk.mem_iff.1 hd)) (fun d hd=>hov d (hpk.mem_iff.1 hd));go_wp2_with (go_at_call 70;refine hcall.mono ?_;rintro e w2 ⟨v2,rfl,hev,hb2⟩)
    go_ret;have heq:de bR (ss.map (·.1))=de bR (G.kept.map (·.1)):=rn (sO _) fun x=>by rw[pH];exact hpk.mem_iff
    rw[heq]at hev;exact⟨_,rfl,KA hev hbr.size,hbr.trans (hb2.mono hbr.size)⟩
  . intro d vv ev left' w2 hrg2 hlt hg2 hs2 hen;rw[show aX d= .agg #[.int .i64 d.dev, .int .i64 d.inc, .int .i64 d.seq]from rfl]at hen⊢;have hr0:=hrg.isWalk;have hrow2:w2.ownsRow W1.heap.size 71 3 u3 ss.length (fa (ss.map (·.1))):=hrow.kept (row:=some w.heap.size) ⟨hg2.os,hg2.tape,hg2.output,hg2.size,fun i hi hne=>hg2.block i hi fun e=>hne (by rw[e])⟩ (by
     obtain⟨o,ho,hw⟩:=hr0;exact ownsRow_ne_a hrow ho (fun cur e=>by rw[e]at hw;cases hw))
    have hb2:Below w.heap.size w w2:=hbr.trans ⟨hg2.os,hg2.tape,hg2.output,hg2.size,fun i hi=>hg2.block i (AK hi hbr.size) (by omega)⟩;obtain⟨X,hX⟩:∃X,(w2.alloc (.cells #[.int .i64 d.dev, .int .i64 d.inc, .int .i64 d.seq] 71)).alloc (.cells #[.int .i64 d.dev, .int .i64 d.inc, .int .i64 d.seq] 71)=X:=⟨_,rfl⟩;have hrow3:X.ownsRow W1.heap.size 71 3 u3 ss.length (fa (ss.map (·.1))):=by rw[<-hX];exact(hrow2.alloc _).alloc _
    have hk3:KeepsWalks w2 X:=by rw[<-hX];exact(KeepsWalks.alloc _ _).trans (KeepsWalks.alloc _ _)
    have hb3:Below w.heap.size w X:=by rw[<-hX];exact(hb2.alloc hb2.size _).alloc (by have:=hb2.size;simp;omega) _
    have hs3:X.heap.size=wr.heap.size+2:=by rw[<-hX];simp;omega
    have hnc:∀i u,([.int .i64 d.dev, .int .i64 d.inc, .int .i64 d.seq]:List Value)[i]? =some u->X.cell? ((⟨wr.heap.size+1,0,none⟩:Addr).add i)=some u:=fun i u hi=>by
     rw[Addr.add_lit,<-hX,show wr.heap.size+1=(w2.alloc (.cells #[.int .i64 d.dev, .int .i64 d.inc, .int .i64 d.seq] 71)).heap.size from by rw[<-hs2];exact(DC _).symm];match i with
     |0=>cases hi;simp
     |1=>cases hi;simp
     |2=>cases hi;simp
     |_+3=>cases hi
    have hone:∀u∈([.int .i64 d.dev, .int .i64 d.inc, .int .i64 d.seq]:List Value),u.oneCell'=true:=by simp[Value.oneCell']
    have hlen:ss.length+1<=G.kept.length:=by omega
    have hmax:ss.length+1<=maxLen:=by unfold maxLen;omega
    go_wp2_with (at_builtin;go_loud (refine wpList_append_own _ rfl _ _ 36 rfl W1.heap.size 71 i0 _ 3 24 Tryz.underlying36 hi hz0 hz1 hz2 rfl (by decide) _ _ _ rfl hrow3 ⟨wr.heap.size+1,0,none⟩ 1 1 [.int .i64 d.dev, .int .i64 d.inc, .int .i64 d.seq] rfl rfl hnc hone hmax (by omega) (by omega) ?_;intro v3 w3 hown hg3 hnil))
    have hrg3:=(hrg2.jA hk3).jA (KeepsWalks.of_grownBy hg3 (ownsRow_not_walk_a hrow3));have hs4:=hg3.size;go_roundw
    case rel=>exact⟨ss++[(d,vv,ev)],left',hrg3,by simp;omega,by rw[AF,AZ,EC,yC,Bu];exact hown,hb3.grown hg3 hb3.size (fun k e=>AW hb1.size (hrow3.lt k e).1),by omega⟩
    case measure=>rw[hrg3.left_eq,hrg.left_eq];omega
theorem px {w:World} {n b bk ba bd bs bv:Nat} {G:bC} {m:bB} (h:cB w n b bk ba bd bs bv G) (g:dW G m) (ok:iK m) (hov:∀e∈m.kept,e.over.length<=100000):
  Calls Tryz.prog 32 #[.pointer (some ⟨b,0,none⟩)] w fun e w'=>∃v',e= .returned v'/\iX w' w.heap.size m.kept v'/\Below w.heap.size w w':=by
 letI:Inhabited aI:=⟨⟨True,#[]⟩⟩
 have hmem:∀d∈G.kept.map (·.1),∃e∈m.kept,e.dot=d:=fun d hd=>by
  cases e:az G.kept d with
  |none=>exact absurd hd (bI.1 e)
  |some x=>
   have h1:=g.keys _ _ e;exact⟨x.2,(g.kept x.2).2 ⟨x.1,by rw[h1];exact e⟩,h1⟩
 have hfe:∀e∈m.kept,(((az G.kept e.dot).map (·.2)).getD vl)=e:=fun e he=>by
  obtain⟨v,hv⟩:=(g.kept e).1 he;rw[hv];rfl
 have hdots:de bR (G.kept.map (·.1))=m.kept.map (·.dot):=(rn (by rw[List.pairwise_map];exact g.sorted) fun d=>by
  rw[Ar];exact⟨fun⟨e,he,hed⟩=>by
   obtain⟨v,hv⟩:=(g.kept e).1 he;rw[hed]at hv;exact Ar.2 ⟨_,jJ hv,rfl⟩,fun hd=>by
   obtain⟨e,he,hed⟩:=hmem d hd;exact⟨e,he,hed⟩⟩).symm
 have hk:=PT h (fun d=>((az G.kept d).map (·.2)).getD vl) (by rw[g.len];have:=ok.kept;omega) (fun d hd=>by
   obtain⟨e,he,rfl⟩:=hmem d hd;obtain⟨v,hv⟩:=(g.kept e).1 he;exact⟨v,by rw[hv];rfl⟩) (fun d hd=>by
   obtain⟨e,he,rfl⟩:=hmem d hd;show(((az G.kept e.dot).map (·.2)).getD vl).over.length<=100000
   rw[hfe e he];exact hov e he)
 rw[hdots,B6]at hk;rw[show m.kept.map ((fun d=>((az G.kept d).map (·.2)).getD vl) ∘ (·.dot))=m.kept by
  conv=>rhs;rw[<-EP m.kept]
  exact BH fun e he=>hfe e he]at hk
 exact hk
section
theorem QH {w:World} {n b bk ba bd bs bv:Nat} {G:bC} {m:bB} (h:cB w n b bk ba bd bs bv G) (g:dW G m) (d:ak) (hd:eB d=true):
  Calls Tryz.prog 33 #[.pointer (some ⟨b,0,none⟩),aX d] w fun e w'=>e= .returned (.bool (ct m.ctx d))/\Below w.heap.size w w':=by
 obtain⟨a,i,s⟩:=d;rw[show aX ⟨a,i,s⟩= .agg #[.int .i64 a, .int .i64 i, .int .i64 s]from rfl];have hv:ct m.ctx ⟨a,i,s⟩=decide (s<=kI G.vec a i):=by
  letI:Inhabited aI:=⟨⟨True,#[]⟩⟩
  rw[g.vec];unfold ct;rw[hd,eI];rfl
 rw[hv];have hc3:=h.c3;have hbl:=iy hc3;have hcall:∀{x:World},Below w.heap.size w x->Calls Tryz.prog 61 #[.pointer (some ⟨bs,0,none⟩), .agg #[.int .i64 a, .int .i64 i, .int .i64 s]] x fun e w'=>e= .returned (.bool (decide (s<=kI G.vec a i)))/\Below x.heap.size x w':=fun hb=>lG (h.below hb).cv (h.below hb).mv a i s hd
 obtain⟨W,hW⟩:∃W,w.alloc (.cells #[.int .i64 a, .int .i64 i, .int .i64 s] 71)=W:=⟨_,rfl⟩;have hbW:Below w.heap.size w W:=by rw[<-hW];exact(Below.refl _ _).alloc (Aj _) _
 have hq:Below w.heap.size w W.drew:=hbW.drew;have e3:W.cell? ⟨b,3,none⟩=some (.pointer (some ⟨bs,0,none⟩)):=eJ hc3 (hbW.block b hbl);have hn0:W.cell? ⟨w.heap.size,0,none⟩=some (.int .i64 a):=by rw[<-hW];simp
 have hn1:W.cell? ⟨w.heap.size,1,none⟩=some (.int .i64 i):=by rw[<-hW];simp
 have hn2:W.cell? ⟨w.heap.size,2,none⟩=some (.int .i64 s):=by rw[<-hW];simp
 have hw:=hcall hq;go_enter Tryz.func33,Tryz.ntmps33
 go_wp2_with fail
 go_region_with (go_at_call 61;refine hw.mono ?_;rintro e w1 ⟨rfl,hb⟩)
 all_goals (go_wp2)
 all_goals (go_ret)
 all_goals (exact⟨rfl,hq.trans (hb.mono hq.size)⟩)
variable [Inhabited aI]
theorem NP {w:World} {p:Nat->Prop} {g:Bool} {d:ak} {v:Value} (h:Rd w p g (.agg d.enc) v):v=aX d:=by
 cases h with
 | @agg cs vs h1 h2=>
  obtain⟨l⟩:=vs;match l,h1 with
  |[x,y,z],_=>
   have e1:=iz (h2 0 _ _ rfl rfl);have e2:=iz (h2 1 _ _ rfl rfl);have e3:=iz (h2 2 _ _ rfl rfl);subst e1 e2 e3;rfl
def GR:aQ:={Y:=Nat×bB×ak,pre:=fun y=>eC y.1 y.2.1/\eB y.2.2=true,args:=fun y=>[.wp ⟨y.1,0,none⟩, .agg y.2.2.enc],res:=fun y=> .bool (ct y.2.1.ctx y.2.2)}
theorem Oo (hdr:¬(default:aI).dr):CO sy GR:=lC bJ.ok (by
 rintro⟨b,m,d⟩ ⟨hpre,hd⟩ w args hold ⟨h1,h2⟩;match args,h1 with
 |[v,u],_=>
 have e1:=ql (h2 0 _ _ rfl rfl);have e2:=NP (h2 1 _ _ rfl rfl);subst e1 e2;obtain⟨n,bk,ba,bd,bs,bv,G,hO,hG⟩:=hpre.at_ w hold;refine(QH hO hG d hd).mono ?_;rintro e w' ⟨rfl,hb⟩;exact⟨_,rfl, .inr (.bool _),hb,fun h=>(hdr h).elim⟩)
def CS:aQ:={Y:=Nat×bB,pre:=fun y=>eC y.1 y.2,args:=fun y=>[.wp ⟨y.1,0,none⟩],res:=fun y=>eM y.2.kept}
theorem Lp (hdr:¬(default:aI).dr):CO sq CS:=lC bJ.ok (by
 rintro⟨b,m⟩ hpre w args hold ⟨h1,h2⟩;match args,h1 with
 |[v],_=>
 have e1:=ql (h2 0 _ _ rfl rfl);subst e1;obtain⟨n,bk,ba,bd,bs,bv,G,hO,hG⟩:=hpre.at_ w hold;refine(px hO hG hpre.ok hpre.over).mono ?_;rintro e w' ⟨v',rfl,hv,hb⟩;exact⟨_,rfl, .inr (Pd hv),hb,fun h=>(hdr h).elim⟩)
end
section
theorem iZ {α:Type} {p:α->Bool} {l:List α} {k:Nat} (hk:k<l.length) (h:(l.take k).all p=true) (h2:p l[k]=true):(l.take (k+1)).all p=true:=by
 rw[As hk,DV,h];simpa using h2
variable [Inhabited aI]
def jN (ctx:List ak) (l:List ae):Bool:=l.all fun e=>e.over.all fun d=>ct ctx d
def iS (m:bB):Int:=if jN m.ctx m.kept=true then 0 else 4
structure je (m:bB):Prop where
 ok:iK m
 over:∀e∈m.kept,e.over.length<=100000
 cf:∀e∈m.kept,∀d∈e.over,eB d=true
noncomputable def GH (f:FuncId):Option aQ:=bif Nat.beq f sq then some CS else bif Nat.beq f sy then some GR else bif Nat.beq f mZ then some u7 else bS f
theorem LK (hdr:¬(default:aI).dr):∀f C,GH f=some C->CO f C:=bU (Lp hdr) (bU (Oo hdr) (bU xW fZ))
theorem Fm {ctx:List ak} {l:List ae} {x k:Nat} (hx:x<l.length) (hk:k<l[x].over.length) (h:ct ctx l[x].over[k]=false):jN ctx l=false:=by
 cases e:jN ctx l with
 |false=>rfl
 |true=>
  unfold jN at e;rw[Aq]at e;have:=e _ (Au hx);rw[Aq]at this;have:=this _ (Au hk);rw[h]at this;cases this
theorem zI {ctx:List ak} {l:List ae} {x:Nat} (hx:x<l.length) (h:jN ctx (l.take x)=true) (h2:l[x].over.all (fun d=>ct ctx d)=true):jN ctx (l.take (x+1))=true:=by
 unfold jN at*;rw[As hx,DV,h];simpa using h2
def CR:aQ:={Y:=bB,pre:=je,args:=fun y=>[.agg y.enc],res:=fun y=>i64 (iS y)}
def JP (m:bB):aK:={α:=Nat,ok:=fun i=>i<=m.kept.length/\jN m.ctx (m.kept.take i)=true,μ:=fun i=>m.kept.length - i,bn:=[1],aU:=fun i=>[(3,i64 i)],bP:=fun _=>[]}
def JQ (m:bB):aK:={α:=Nat×Nat,ok:=fun x=>∃h:x.1<m.kept.length,x.2<=m.kept[x.1].over.length/\jN m.ctx (m.kept.take x.1)=true/\(m.kept[x.1].over.take x.2).all (fun d=>ct m.ctx d)=true,μ:=fun x=>((m.kept[x.1]?).map (fun e=>e.over.length)).getD 0 - x.2,bn:=[1],aU:=fun x=>[(3,i64 x.1),(4,i64 x.2)],bP:=fun _=>[],link:=some fun a b=>b.1=a.1}
theorem Lo:CO mS CR:=bZ (cfg:=fun(y:bB)=>cC (fun f=>bif Nat.beq f mZ then some u7 else bS f) (pV mS 5 (JQ y) (cX mS 2 (JP y)))) bJ (fun _=>rfl) (fun _=>bU xW fZ) (n:=600) (by
 intro (m:bB) hpre;have hpre:je m:=hpre;have hkl:=hpre.ok.kept;have hcl:=hpre.ok.ctx
 (conv=>whnf)
 refine⟨⟨(0:Nat),⟨Ax _,rfl⟩,?_⟩,?_⟩
 . repeat' (first|exact trivial|exact rfl|((conv=>whnf);first|(apply aE<;>intro)|apply And.intro))
 intro (x:Nat) hx;obtain⟨hx,hcv⟩:=hx;have hx:x<=m.kept.length:=hx;have hcv:jN m.ctx (m.kept.take x)=true:=hcv
 (conv=>whnf)
 refine aE (fun hlt=>?_) fun hge=>?_
 . have hlt':x<m.kept.length:=cN hlt;have hmu:m.kept.length - (x+1)<m.kept.length - x:=by omega
   (conv=>whnf)
   refine⟨((x,0):Nat×Nat),⟨((x,0):Nat×Nat),⟨⟨hlt',Ax _,hcv,rfl⟩,rfl⟩,?_⟩,?_⟩
   . repeat' (first|exact trivial|exact rfl|((conv=>whnf);first|(apply aE<;>intro)|apply And.intro))
   rintro⟨x1,k⟩ ⟨⟨h1,h2,h3,h4⟩,hx1⟩;have hx1:x1=x:=hx1;subst hx1;have hkm:=m.kept[x1]?
   have h2:k<=m.kept[x1].over.length:=h2;have h4:(m.kept[x1].over.take k).all (fun d=>ct m.ctx d)=true:=h4;have hov:=hpre.over _ (Au hlt');have hg:m.kept[x1]? =some m.kept[x1]:=Af hlt'
   (conv=>whnf)
   refine aA.2 ⟨_,ee hlt',?_⟩
   (conv=>whnf)
   refine aE (fun hlt2=>?_) fun hge2=>?_
   . have hlt2':k<m.kept[x1].over.length:=cN hlt2
     (conv=>whnf)
     refine aA.2 ⟨_,ee hlt',?_⟩
     (conv=>whnf)
     refine aA.2 ⟨_,ee hlt2',?_⟩
     (conv=>whnf)
     refine⟨(m.ctx,m.kept[x1].over[k]),?_⟩
     repeat ((conv=>whnf);first|refine⟨rfl,?_⟩|refine⟨trivial,?_⟩)
     refine⟨hcl,?_⟩
     (conv=>whnf)
     refine aE (fun h=>?_) fun h=>?_
     . have h:ct m.ctx m.kept[x1].over[k]=false:=by
        have h:(!ct m.ctx m.kept[x1].over[k])=true:=h;simpa using h
       have hc:=Fm hlt' hlt2' h;have hz:iS m=4:=by unfold iS;rw[hc];rfl
       (conv=>whnf)
       refine⟨by show(4:Int)=iS m;exact hz.symm,?_⟩
       repeat' (first|exact trivial|exact rfl|((conv=>whnf);first|(apply aE<;>intro)|apply And.intro))
     . have h:ct m.ctx m.kept[x1].over[k]=true:=by
        have h:(!ct m.ctx m.kept[x1].over[k])=false:=h;simpa using h
       (conv=>whnf)
       refine aq.2 ⟨dg k (by omega),?_⟩
       (conv=>whnf)
       refine⟨((x1,k+1):Nat×Nat),⟨⟨hlt',hlt2',hcv,iZ hlt2' h4 h⟩,rfl⟩,by show((m.kept[x1]?).map (fun e=>e.over.length)).getD 0 - (k+1)<((m.kept[x1]?).map (fun e=>e.over.length)).getD 0 - k;rw[hg];show m.kept[x1].over.length - (k+1)<m.kept[x1].over.length - k;omega,?_⟩
       repeat' (first|exact trivial|exact rfl|((conv=>whnf);first|(apply aE<;>intro)|apply And.intro))
   . have hge':m.kept[x1].over.length<=k:=gN hge2;rw[Av hge']at h4
     (conv=>whnf)
     refine aq.2 ⟨dg x1 (by omega),?_⟩
     (conv=>whnf)
     refine⟨(x1+1:Nat),⟨hlt',zI hlt' hcv h4⟩,hmu,?_⟩
     repeat' (first|exact trivial|exact rfl|((conv=>whnf);first|(apply aE<;>intro)|apply And.intro))
 . have hge':m.kept.length<=x:=gN hge;rw[Av hge']at hcv;have hz:iS m=0:=by unfold iS;rw[An hcv]
   (conv=>whnf)
   refine⟨by show(0:Int)=iS m;exact hz.symm,?_⟩
   repeat' (first|exact trivial|exact rfl|((conv=>whnf);first|(apply aE<;>intro)|apply And.intro)))
end
section
variable [Inhabited aI]
abbrev Mq:=Option (Nat×bB)
def Mq.arg:Mq->SV|none=> .aF|some y=> .wp ⟨y.1,0,none⟩
def Mq.at:Mq->Prop|none=>True|some y=>eC y.1 y.2/\je y.2
noncomputable def Mq.fX (c:FuncId->Option aQ):Mq->FuncId->Option aQ|none=>bS|some _=>c
noncomputable def Mq.lH (a:Nat×bB->FuncId->Nat->Option aK):Mq->FuncId->Nat->Option aK|none=>fun _ _=>none|some y=>a y
theorem Q4 {c:FuncId->Option aQ} (h:∀f C,c f=some C->CO f C) (y:Mq):∀f C,y.fX c f=some C->CO f C:=by
 cases y with
 |none=>exact fZ
 |some y=>exact h
def CQ:aQ:={Y:=Mq,pre:=fun y=>y.at,args:=fun y=>[y.arg],res:=fun y=>i64 (match y with|none=>17|some z=>iS z.2)}
def JN (m:bB):aK:={α:=Nat,ok:=fun i=>i<=m.kept.length/\jN m.ctx (m.kept.take i)=true,μ:=fun i=>m.kept.length - i,bn:=[0],aU:=fun i=>[(10,eM m.kept),(11,i64 (Int.ofNat m.kept.length)),(12,i64 i)],bP:=fun _=>[]}
def JO (m:bB):aK:={α:=Nat×Nat,ok:=fun x=>∃h:x.1<m.kept.length,x.2<=m.kept[x.1].over.length/\jN m.ctx (m.kept.take x.1)=true/\(m.kept[x.1].over.take x.2).all (fun d=>ct m.ctx d)=true,μ:=fun x=>((m.kept[x.1]?).map (fun e=>e.over.length)).getD 0 - x.2,bn:=[0],aU:=fun x=>[(10,eM m.kept),(11,i64 (Int.ofNat m.kept.length)),(12,i64 x.1),(17,cf (((m.kept[x.1]?).map (fun e=>e.over)).getD [])),(18,i64 (Int.ofNat (((m.kept[x.1]?).map (fun e=>e.over)).getD []).length)),(19,i64 x.2)],bP:=fun _=>[],link:=some fun a b=>b.1=a.1}
theorem Ln (hdr:¬(default:aI).dr):CO mR CQ:=bZ (cfg:=fun(y:Mq)=>cC (Mq.fX GH y) (Mq.lH (fun z=>pV mR 7 (JO z.2) (cX mR 4 (JN z.2))) y)) bJ (fun _=>rfl) (fun(y:Mq)=>Q4 (LK hdr) y) (n:=600) (by
 rintro(_|⟨b,m⟩) hm
 . repeat' (first|exact trivial|exact rfl|((conv=>whnf);first|(apply aE<;>intro)|apply And.intro))
 have hS:eC b m:=hm.1;have hpre:je m:=hm.2;have hkl:=hpre.ok.kept;have hcl:=hpre.ok.ctx
 (conv=>whnf)
 refine⟨(b,m),?_⟩
 repeat ((conv=>whnf);first|refine⟨rfl,?_⟩|refine⟨trivial,?_⟩)
 refine⟨hS,?_⟩
 (conv=>whnf)
 refine⟨⟨(0:Nat),⟨Ax _,rfl⟩,?_⟩,?_⟩
 . repeat' (first|exact trivial|exact rfl|((conv=>whnf);first|(apply aE<;>intro)|apply And.intro))
 intro (x:Nat) hx;obtain⟨hx,hcv⟩:=hx;have hx:x<=m.kept.length:=hx;have hcv:jN m.ctx (m.kept.take x)=true:=hcv
 (conv=>whnf)
 refine aE (fun hlt=>?_) fun hge=>?_
 . have hlt':x<m.kept.length:=cN hlt;have hmu:m.kept.length - (x+1)<m.kept.length - x:=by omega
   have hg:m.kept[x]? =some m.kept[x]:=Af hlt';have hov:=hpre.over _ (Au hlt');have hdt:=hpre.cf _ (Au hlt')
   (conv=>whnf)
   refine aA.2 ⟨_,ee hlt',?_⟩
   (conv=>whnf)
   refine⟨((x,0):Nat×Nat),⟨((x,0):Nat×Nat),⟨⟨hlt',Ax _,hcv,rfl⟩,rfl⟩,?_⟩,?_⟩
   . repeat' (first|exact trivial|exact rfl|((conv=>whnf);first|(apply aE<;>intro)|apply And.intro))
     all_goals ((conv=>whnf);rw[hg];try rfl)
   rintro⟨x1,k⟩ ⟨⟨h1,h2,h3,h4⟩,hx1⟩;have hx1:x1=x:=hx1;subst hx1;have h2:k<=m.kept[x1].over.length:=h2;have h4:(m.kept[x1].over.take k).all (fun d=>ct m.ctx d)=true:=h4
   (conv=>whnf)
   refine aE (fun hlt2=>?_) fun hge2=>?_
   . have hlt2':k<m.kept[x1].over.length:=by
       have h:k<(((m.kept[x1]?).map (fun e=>e.over)).getD []).length:=cN hlt2;rw[hg]at h;exact h
     have hg2:(((m.kept[x1]?).map (fun e=>e.over)).getD [])[k]? =some (m.kept[x1].over[k]):=by rw[hg];exact Af hlt2'
     (conv=>whnf)
     refine aA.2 ⟨_,hg2,?_⟩
     (conv=>whnf)
     refine⟨(b,m,m.kept[x1].over[k]),?_⟩
     repeat ((conv=>whnf);first|refine⟨rfl,?_⟩|refine⟨trivial,?_⟩)
     refine⟨⟨hS,hdt _ (Au hlt2')⟩,?_⟩
     (conv=>whnf)
     refine aE (fun h=>?_) fun h=>?_
     . have h:ct m.ctx m.kept[x1].over[k]=false:=by
        have h:(!ct m.ctx m.kept[x1].over[k])=true:=h;simpa using h
       have hc:=Fm hlt' hlt2' h;have hz:iS m=4:=by unfold iS;rw[hc];rfl
       (conv=>whnf)
       refine⟨by show(4:Int)=iS m;exact hz.symm,?_⟩
       repeat' (first|exact trivial|exact rfl|((conv=>whnf);first|(apply aE<;>intro)|apply And.intro))
     . have h:ct m.ctx m.kept[x1].over[k]=true:=by
        have h:(!ct m.ctx m.kept[x1].over[k])=false:=h;simpa using h
       (conv=>whnf)
       refine aq.2 ⟨dg k (by omega),?_⟩
       (conv=>whnf)
       refine⟨((x1,k+1):Nat×Nat),⟨⟨hlt',hlt2',hcv,iZ hlt2' h4 h⟩,rfl⟩,by show((m.kept[x1]?).map (fun e=>e.over.length)).getD 0 - (k+1)<((m.kept[x1]?).map (fun e=>e.over.length)).getD 0 - k;rw[hg];show m.kept[x1].over.length - (k+1)<m.kept[x1].over.length - k;omega,?_⟩
       repeat' (first|exact trivial|exact rfl|((conv=>whnf);first|(apply aE<;>intro)|apply And.intro))
   . have hge':m.kept[x1].over.length<=k:=by
       have h:=gN hge2;rw[hg]at h;exact h
     rw[Av hge']at h4
     (conv=>whnf)
     refine aq.2 ⟨dg x1 (by omega),?_⟩
     (conv=>whnf)
     refine⟨(x1+1:Nat),⟨hlt',zI hlt' hcv h4⟩,hmu,?_⟩
     repeat' (first|exact trivial|exact rfl|((conv=>whnf);first|(apply aE<;>intro)|apply And.intro))
 . have hge':m.kept.length<=x:=gN hge;rw[Av hge']at hcv;have hz:iS m=0:=by unfold iS;rw[An hcv]
   (conv=>whnf)
   refine⟨by show(0:Int)=iS m;exact hz.symm,?_⟩
   repeat' (first|exact trivial|exact rfl|((conv=>whnf);first|(apply aE<;>intro)|apply And.intro)))
def qD:aQ:={Y:=List ak×List ak,pre:=fun y=>iJ y.1/\iJ y.2,args:=fun y=>[cf y.1,cf y.2],res:=fun y=> .bool (decide (y.1=y.2))}
def vu (y:List ak×List ak):aK:={α:=Nat,ok:=fun i=>i<=y.1.length/\y.1.length=y.2.length/\y.1.take i=y.2.take i,μ:=fun i=>y.1.length - i,bn:=[],aU:=fun i=>[(0,cf y.1),(1,cf y.2),(12,i64 (Int.ofNat y.1.length)),(13,i64 i)],bP:=fun _=>[]}
theorem Qg:CO oL qD:=bZ (cfg:=fun y=>cC bS (cX oL 4 (vu y))) bJ (fun _=>rfl) (fun _=>fZ) (n:=600) (by
 rintro⟨l,m⟩ ⟨(hl:l.length<=1000000),(hm:m.length<=1000000)⟩
 (conv=>whnf)
 refine aE (fun h=>?_) fun h=>?_
 . (conv=>whnf)
   refine⟨(AU fun e=>?_).symm,?_⟩
   . have e:l=m:=e;subst e;simp at h
   . repeat' (first|exact trivial|exact rfl|((conv=>whnf);first|(apply aE<;>intro)|apply And.intro))
 have hlm:l.length=m.length:=by
   have h:(!((Int.ofNat l.length)==(Int.ofNat m.length)))=false:=h;simp at h;omega
 (conv=>whnf)
 refine⟨⟨(0:Nat),⟨Ax _,hlm,rfl⟩,?_⟩,?_⟩
 . repeat' (first|exact trivial|exact rfl|((conv=>whnf);first|(apply aE<;>intro)|apply And.intro))
 intro (x:Nat) hx;obtain⟨hx, -,ht⟩:=hx;have hx:x<=l.length:=hx;have ht:l.take x=m.take x:=ht
 (conv=>whnf)
 refine aE (fun hlt=>?_) fun hge=>?_
 . have hlt':x<l.length:=cN hlt;have hlt2:x<m.length:=by omega
   (conv=>whnf)
   refine aA.2 ⟨_,ee hlt',?_⟩
   (conv=>whnf)
   refine aA.2 ⟨_,ee hlt2,?_⟩
   (conv=>whnf)
   refine aE (fun h=>?_) fun h=>?_
   . have h:(!decide (l[x]=m[x]))=true:=by rw[<-nv];exact h
     (conv=>whnf)
     refine⟨(AU fun e=>?_).symm,?_⟩
     . have e:l=m:=e;subst e;simp at h
     . repeat' (first|exact trivial|exact rfl|((conv=>whnf);first|(apply aE<;>intro)|apply And.intro))
   . have h:(!decide (l[x]=m[x]))=false:=by rw[<-nv];exact h
     (conv=>whnf)
     refine aq.2 ⟨dg x (by omega),?_⟩
     (conv=>whnf)
     refine⟨(x+1:Nat),⟨hlt',hlm,?_⟩,by show l.length - (x+1)<l.length - x;omega,?_⟩
     . show l.take (x+1)=m.take (x+1)
       have h:l[x]=m[x]:=by simpa using h
       rw[As hlt',As hlt2,ht,h]
     . repeat' (first|exact trivial|exact rfl|((conv=>whnf);first|(apply aE<;>intro)|apply And.intro))
 . have hge':l.length<=x:=gN hge
   (conv=>whnf)
   refine⟨(A7 ?_).symm,?_⟩
   . show l=m
     rw[Av hge',Av (by omega)]at ht;exact ht
   . repeat' (first|exact trivial|exact rfl|((conv=>whnf);first|(apply aE<;>intro)|apply And.intro)))
end
section
theorem Gs (x y:ae):x=y↔(x.dot.dev=y.dot.dev/\x.dot.inc=y.dot.inc/\x.dot.seq=y.dot.seq)/\(x.bY.wall=y.bY.wall/\x.bY.count=y.bY.count/\x.bY.dev=y.bY.dev)/\x.kind=y.kind/\((x.key.name=y.key.name/\x.key.domain=y.key.domain/\x.key.path=y.key.path)/\x.aa.value=y.aa.value/\x.aa.aR=y.aa.aR/\x.aa.bG=y.aa.bG/\x.aa.aS=y.aa.aS/\x.aa.persistent=y.aa.persistent/\x.aa.bp=y.aa.bp/\x.aa.aG=y.aa.aG/\x.aa.access=y.aa.access)/\x.over=y.over:=by
 constructor
 . rintro rfl;simp
 . rintro⟨h1,h2,h3,⟨h4,h5⟩,h6⟩
   cases x;cases y;rename_i d st kd ky ck l d' st' kd' ky' ck' l'
   cases d;cases d';cases st;cases st';cases ky;cases ky';cases ck;cases ck';simp_all
variable [Inhabited aI]
def qd:aQ:={Y:=ae×ae,pre:=fun y=>iJ y.1.over/\iJ y.2.over,args:=fun y=>[.agg y.1.enc, .agg y.2.enc],res:=fun y=> .bool (decide (y.1=y.2))}
theorem ND:CO PK qd:=bZ (cfg:=fun y=>cC (fun f=>bif Nat.beq f oL then some qD else bS f) (cM y)) bJ (fun _=>rfl) (fun _=>bU Qg fZ) (n:=800) (by
 rintro⟨⟨d,st,kd,ky,ck,l⟩,⟨d',st',kd',ky',ck',l'⟩⟩ ⟨(hl:l.length<=1000000),(hm:l'.length<=1000000)⟩
 repeat' (first|exact trivial|(with_reducible exact rfl)|((conv=>whnf);first|(apply aE<;>intro)|apply And.intro)|((conv=>whnf);refine⟨(l,l'),?_⟩;(conv=>whnf);refine⟨rfl,?_⟩))
 all_goals first|exact hl|exact hm|skip
 all_goals (simp only[qd])
 all_goals (simp_all[Gs])
 all_goals trace_state)
theorem Mn:CO Hq qd:=bZ (cfg:=fun y=>cC (fun f=>bif Nat.beq f mW then some xN else bS f) (cM y)) bJ (fun _=>rfl) (fun _=>bU F8 fZ) (n:=800) (by
 rintro⟨⟨d,st,kd,ky,ck,l⟩,⟨d',st',kd',ky',ck',l'⟩⟩ ⟨(hl:l.length<=1000000),(hm:l'.length<=1000000)⟩
 repeat' (first|exact trivial|(with_reducible exact rfl)|((conv=>whnf);first|(apply aE<;>intro)|apply And.intro)|((conv=>whnf);refine⟨(l,l'),?_⟩;(conv=>whnf);refine⟨rfl,?_⟩))
 all_goals first|exact hl|exact hm|skip
 all_goals (simp only[qd])
 all_goals (simp_all[Gs])
 all_goals trace_state)
def fA (e:ae):ae:={e with over:=[]}
def P8:aQ:={Y:=ae,pre:=fun _=>True,args:=fun y=>[.agg y.enc],res:=fun y=> .agg (fA y).enc}
theorem OJ:CO Qq P8:=bZ (cfg:=fun y=>cC bS (cM y)) bJ (fun _=>rfl) (fun _=>fZ) (n:=400) (by
 rintro⟨d,st,kd,ky,ck,l⟩ _
 repeat' (first|exact trivial|exact rfl|((conv=>whnf);first|(apply aE<;>intro)|apply And.intro)))
def gU (x y:ae):Bool:= !decide (x.dot=y.dot)||decide (fA x=fA y)
def iv (a b:bB):Int:=if(a.kept.all fun x=>b.kept.all fun y=>gU x y)=true then 0 else 1
def LU (a b:bB):aK:={α:=Nat,ok:=fun i=>i<=a.kept.length/\((a.kept.take i).all fun x=>b.kept.all fun y=>gU x y)=true,μ:=fun i=>a.kept.length - i,bn:=[2,3],aU:=fun i=>[(5,i64 i)],bP:=fun _=>[]}
def LV (a b:bB):aK:={α:=Nat×Nat,ok:=fun x=>∃h:x.1<a.kept.length,x.2<=b.kept.length/\((a.kept.take x.1).all fun x=>b.kept.all fun y=>gU x y)=true/\((b.kept.take x.2).all fun y=>gU a.kept[x.1] y)=true,μ:=fun x=>b.kept.length - x.2,bn:=[2,3],aU:=fun x=>[(5,i64 x.1),(6,i64 x.2)],bP:=fun _=>[],link:=some fun a b=>b.1=a.1}
def FK:aQ:={Y:=bB×bB,pre:=fun y=>iK y.1/\iK y.2,args:=fun y=>[.agg y.1.enc, .agg y.2.enc],res:=fun y=>i64 (iv y.1 y.2)}
theorem MY:CO mT FK:=bZ (cfg:=fun(y:bB×bB)=>cC (fun f=>bif Nat.beq f Hq then some qd else bS f) (pV mT 5 (LV y.1 y.2) (cX mT 2 (LU y.1 y.2)))) bJ (fun _=>rfl) (fun _=>bU Mn fZ) (n:=800) (by
 rintro⟨a,b⟩ ⟨ha,hb⟩;have ha:iK a:=ha;have hb:iK b:=hb;have hak:=ha.kept;have hbk:=hb.kept
 (conv=>whnf)
 refine⟨⟨(0:Nat),⟨Ax _,rfl⟩,?_⟩,?_⟩
 . repeat' (first|exact trivial|exact rfl|((conv=>whnf);first|(apply aE<;>intro)|apply And.intro))
 intro (x:Nat) hx;obtain⟨hx,hcv⟩:=hx;have hx:x<=a.kept.length:=hx;have hcv:((a.kept.take x).all fun x=>b.kept.all fun y=>gU x y)=true:=hcv
 (conv=>whnf)
 refine aE (fun hlt=>?_) fun hge=>?_
 . have hlt':x<a.kept.length:=cN hlt;have hmu:a.kept.length - (x+1)<a.kept.length - x:=by omega
   (conv=>whnf)
   refine⟨((x,0):Nat×Nat),⟨((x,0):Nat×Nat),⟨⟨hlt',Ax _,hcv,rfl⟩,rfl⟩,?_⟩,?_⟩
   . repeat' (first|exact trivial|exact rfl|((conv=>whnf);first|(apply aE<;>intro)|apply And.intro))
   rintro⟨x1,k⟩ ⟨⟨h1,h2,h3,h4⟩,hx1⟩;have hx1:x1=x:=hx1;subst hx1;have h2:k<=b.kept.length:=h2;have h4:((b.kept.take k).all fun y=>gU a.kept[x1] y)=true:=h4
   (conv=>whnf)
   refine aE (fun hlt2=>?_) fun hge2=>?_
   . have hlt2':k<b.kept.length:=cN hlt2;have hmu2:b.kept.length - (k+1)<b.kept.length - k:=by omega
     (conv=>whnf)
     refine aA.2 ⟨_,ee hlt',?_⟩
     (conv=>whnf)
     refine aA.2 ⟨_,ee hlt2',?_⟩;obtain⟨p,hp⟩:∃p,a.kept[x1]=p:=⟨_,rfl⟩;obtain⟨q,hq⟩:∃q,b.kept[k]=q:=⟨_,rfl⟩;rw[hp,hq]
     (conv=>whnf)
     refine aE (fun hd=>?_) fun hd=>?_
     . have hd:p.dot=q.dot:=by
         have h:decide (p.dot=q.dot)=true:=by rw[<-nv];exact hd
         exact Bo h
       (conv=>whnf)
       refine⟨(fA p,fA q),?_⟩
       repeat ((conv=>whnf);first|refine⟨rfl,?_⟩|refine⟨trivial,?_⟩)
       refine⟨⟨Ax _,Ax _⟩,?_⟩
       (conv=>whnf)
       refine aE (fun h=>?_) fun h=>?_
       . have h:decide (fA p=fA q)=false:=by
          have h:(!decide (fA p=fA q))=true:=h;simpa using h
         have hz:iv a b=1:=by
          unfold iv;rw[Ai];intro e;rw[Aq]at e;have e:=e _ (Au hlt');rw[Aq]at e;have e:=e _ (Au hlt2');rw[hp,hq]at e;unfold gU at e;rw[h,A7 hd]at e
          cases e
         (conv=>whnf)
         refine⟨by show(1:Int)=iv a b;exact hz.symm,?_⟩
         repeat' (first|exact trivial|exact rfl|((conv=>whnf);first|(apply aE<;>intro)|apply And.intro))
       . have h:decide (fA p=fA q)=true:=by
          have h:(!decide (fA p=fA q))=false:=h;simpa using h
         (conv=>whnf)
         refine aq.2 ⟨dg k (by omega),?_⟩
         (conv=>whnf)
         refine⟨((x1,k+1):Nat×Nat),⟨⟨hlt',hlt2',hcv,iZ hlt2' h4 (by show gU a.kept[x1] b.kept[k]=true;rw[hp,hq];unfold gU;rw[h,Dp])⟩,rfl⟩,hmu2,?_⟩
         repeat' (first|exact trivial|exact rfl|((conv=>whnf);first|(apply aE<;>intro)|apply And.intro))
     . have hd:decide (p.dot=q.dot)=false:=by rw[<-nv];exact hd
       (conv=>whnf)
       refine aq.2 ⟨dg k (by omega),?_⟩
       (conv=>whnf)
       refine⟨((x1,k+1):Nat×Nat),⟨⟨hlt',hlt2',hcv,iZ hlt2' h4 (by show gU a.kept[x1] b.kept[k]=true;rw[hp,hq];unfold gU;rw[hd];rfl)⟩,rfl⟩,hmu2,?_⟩
       repeat' (first|exact trivial|exact rfl|((conv=>whnf);first|(apply aE<;>intro)|apply And.intro))
   . have hge':b.kept.length<=k:=gN hge2;rw[Av hge']at h4
     (conv=>whnf)
     refine aq.2 ⟨dg x1 (by omega),?_⟩
     (conv=>whnf)
     refine⟨(x1+1:Nat),⟨hlt',iZ hlt' hcv h4⟩,hmu,?_⟩
     repeat' (first|exact trivial|exact rfl|((conv=>whnf);first|(apply aE<;>intro)|apply And.intro))
 . have hge':a.kept.length<=x:=gN hge;rw[Av hge']at hcv;have hz:iv a b=0:=by unfold iv;rw[An hcv]
   (conv=>whnf)
   refine⟨by show(0:Int)=iv a b;exact hz.symm,?_⟩
   repeat' (first|exact trivial|exact rfl|((conv=>whnf);first|(apply aE<;>intro)|apply And.intro)))
end
section
variable [Inhabited aI]
end
section
inductive Flat:SV->Prop
 |bool (b:Bool):Flat (.bool b)
 |int (k:IntKind) (n:Int):Flat (.int k n)
 |str (s:List UInt8):Flat (.str s)
 |wp (a:Addr):Flat (.wp a)
 |aH {X:Type} {L:List X} {enc:X->List SV} (h:∀(i:Nat) x (j:Nat) v,L[i]? =some x->(enc x)[j]? =some v->Flat v):Flat (.aH X L enc)
theorem wI (l:List ak):Flat (cf l):= .aH fun i x j v _ hv=>by
 have hj:j<3:=(Ah.1 hv).1;match j,hj with
 |0,_|1,_|2,_=>cases hv;exact .int _ _
theorem wX (l:List ae):Flat (eM l):= .aH fun i x j v _ hv=>by
 have hj:j<19:=(Ah.1 hv).1;match j,hj with
 |0,_|1,_|2,_|3,_|4,_|5,_|6,_|15,_|16,_|17,_=>cases hv;exact .int _ _
 |7,_|8,_|9,_|10,_=>cases hv;exact .str _
 |11,_|12,_|13,_|14,_=>cases hv;exact .bool _
 |18,_=>cases hv;exact wI _
section
variable [Inhabited aI] {tab:bc} {w:World} {p:Nat->Prop} {g:Bool}
theorem KQ {n:Nat} (a:Option Addr) (c:Nat):cQ n (.slice a 0 c)= .nils\/cQ n (.slice a 0 c)= .raw (.slice a 0 c):=by
 unfold cQ;split<;>simp_all
theorem uA {s:SV} (hf:Flat s):∀{v:Value},Rd w p g s v->aL (bV tab w).get s (cQ w.heap.size v):=by
 induction hf with
 |bool b=>intro v h;cases h;exact .bool b
 |int k n=>intro v h;cases h;exact .int k n
 |str s=>intro v h;cases h;exact .str s
 |wp a=>intro v h;cases h;exact .wp a
 | @aH X L enc hfl ih=>
  intro v h
  cases h with
  |jc h0=>exact .bT h0 (.inl rfl)
  |bT h h0 a c=>
   rcases KQ (n:=w.heap.size) a c with e|e
   . rw[e];exact .bT h0 (.inl rfl)
   . rw[e];exact .bT h0 (.inr (.inr ⟨_,_,rfl⟩))
  |aH b off cap arr e fz sz u hp hb hs hl hn hc h1 h2=>
   exact xc hb hs (fun x hx=>by obtain⟨i,hi,rfl⟩:=AS hx;exact hn i _ (Af hi)) hl rfl hc (fun i x j v hx hv=>⟨u i j,h1 i x j v hx hv,ih i x j v hx hv (h2 i x j v hx hv)⟩)
theorem LF {s:SV} (hf:Flat s) {v:Value} (h:Rd w p g s v) (n:Nat):eY n v=cQ n v:=by
 cases hf<;>cases h<;>rfl
theorem F0 {s:SV} (hf:Flat s) {v:Value} (h:Rd w p g s v):aL (bV tab w).get s (eY w.heap.size v):=by
 rw[LF hf h];exact uA hf h
theorem Pa {s:SV} {v:Value} (h:aL (bV tab w).get s (eY w.heap.size v)):Rd w (fun _=>True) true s v:=by
 have:=th (ow tab w (E:=⟨fun i=>i,fun _=>0⟩) (fun _ _=>rfl)) (fun _ _ h=>h) h;rwa [wC (fun _ _=>rfl)]at this
end
def dV (w:World) (l:List ae) (v:Value):Prop:=(l=[]/\ ∃a c,v= .slice a 0 c)\/ ∃b off cap arr e fz,v= .slice (some ⟨b,off,none⟩) l.length cap/\w.heap[b]? =some (.cells arr e fz)/\l.length<=cap/\off+l.length*19<=arr.size/\
 ∀i (h:i<l.length),∃u,(∀j,j<19->arr[off+i*19+j]? =(cq l[i] u)[j]?)/\cy w l[i].over u
theorem dV.cells {w w':World} (hc:ic w w') {l:List ae} {v:Value} (h:dV w l v):dV w' l v:=by
 rcases h with h|⟨b,off,cap,arr,e,fz,h1,h2,h3,h5,h4⟩
 . exact .inl h
 . exact .inr ⟨b,off,cap,arr,e,fz,h1,hc _ _ _ _ h2,h3,h5,fun i hi=>by obtain⟨u,k1,k2⟩:=h4 i hi;exact⟨u,k1,k2.cells hc⟩⟩
theorem dV.one {w:World} {l:List ae} {v:Value} (h:dV w l v):∃a c,v= .slice a l.length c:=by
 rcases h with⟨rfl,a,c,rfl⟩|⟨b,off,cap,arr,e,fz,rfl,_⟩<;>exact⟨_,_,rfl⟩
theorem Gu [Inhabited aI] {w:World} {p:Nat->Prop} {g:Bool} {l:List ae} {v:Value} (h:Rd w p g (eM l) v):dV w l v:=by
 unfold eM at h
 cases h with
 |jc h0=>exact .inl ⟨Bj.1 h0,_,_,rfl⟩
 |bT h h0 a c=>exact .inl ⟨Bj.1 h0,_,_,rfl⟩
 |aH b off cap arr e fz sz u hp hb hs hl hn hc h1 h2=>
  by_cases h0:l=[]
  . subst h0;exact .inl ⟨rfl,_,_,rfl⟩
  . have hsz:sz=19:=by
     obtain⟨x,l',rfl⟩:=Er h0;exact(hn 0 x rfl).symm
    subst hsz;refine .inr ⟨b,off,cap,arr,e,fz,rfl,hb,hc,hl,fun i hi=>?_⟩;have hx:l[i]? =some l[i]:=Af hi;have key:∀(j:Nat) s,(ae.enc l[i])[j]? =some s->arr[off+i*19+j]? =some (u i j)/\Rd w p g s (u i j):=fun j s hs=>⟨h1 i _ j s hx hs,h2 i _ j s hx hs⟩
    refine⟨u i 18,fun j hj=>?_,tR (key 18 _ rfl).2⟩;match j,hj with
    |0,_|1,_|2,_|3,_|4,_|5,_|6,_|15,_|16,_|17,_=>rw[(key _ _ rfl).1,iz (key _ _ rfl).2];rfl
    |7,_|8,_|9,_|10,_=>rw[(key _ _ rfl).1,rJ (key _ _ rfl).2];rfl
    |11,_|12,_|13,_|14,_=>rw[(key _ _ rfl).1,rA (key _ _ rfl).2];rfl
    |18,_=>rw[(key _ _ rfl).1];rfl
    |_+19,h=>exact absurd h (by omega)
theorem xQ [Inhabited aI] {w:World} {l:List ae} {v:Value} (h:dV w l v):Rd w (fun _=>True) true (eM l) v:=by
 unfold eM;rcases h with⟨rfl,a,c,rfl⟩|⟨b,off,cap,arr,e,fz,rfl,hb,hc,hl,hi⟩
 . exact .bT rfl rfl a c
 . refine .aH b off cap arr e fz 19 (fun i j=>(arr[off+i*19+j]?).getD (.bool false)) trivial hb (by decide) hl (fun _ _ _=>rfl) hc (fun i x j v hx hv=>?_) (fun i x j v hx hv=>?_)
   all_goals
     have hil:i<l.length:=(Ah.1 hx).1;have hxe:l[i]=x:=(Ah.1 hx).2;obtain⟨u,hcl,hd⟩:=hi i hil;rw[hxe]at hcl hd;have hj:j<19:=(Ah.1 hv).1;have hcl:=hcl j hj
   . rw[hcl,Af (show j<(cq x u).length from hj)];rfl
   . show Rd w _ true v ((arr[off+i*19+j]?).getD _)
     rw[hcl];match j,hj with
     |0,_|1,_|2,_|3,_|4,_|5,_|6,_|15,_|16,_|17,_=>cases hv;exact .int _ _
     |7,_|8,_|9,_|10,_=>cases hv;exact .str _
     |11,_|12,_|13,_|14,_=>cases hv;exact .bool _
     |18,_=>cases hv;exact xu hd
theorem pj {w:World} {b off:Nat} {arr:Array Value} {e:TypeId} {fz:Nat×Nat} {x:ae} {u:Value} {i:Nat} (hb:w.heap[b]? =some (.cells arr e fz)) (hc:∀j,j<19->arr[off+i*19+j]? =(cq x u)[j]?):
  (loadCellsFrom ⟨b,off+i*19,none⟩ 0 19 #[]).run Tryz.prog w= .ok (cq x u).toArray w:=by
 have hl:(loadCells ⟨b,off+i*19,none⟩ (cq x u).length).run Tryz.prog w= .ok (cq x u).toArray w:=
  run_loadCells_list (P:=Tryz.prog) w ⟨b,off+i*19,none⟩ (cq x u) (fun j v hv=>by
   have hj:j<19:=(Ah.1 hv).1;rw[Addr.add_mid];unfold World.cell?
   simp only[hb,A2,Ao,AP];rw[hc j hj];exact hv)
 exact hl
theorem cB.heap {w w':World} {n b bk ba bd bs bv:Nat} {G:bC} (h:cB w n b bk ba bd bs bv G) (hs:∀i,i<w.heap.size->w'.heap[i]? =w.heap[i]?):cB w' n b bk ba bd bs bv G where
 c0:=eJ h.c0 (hs _ (iy h.c0))
 c1:=eJ h.c1 (hs _ (iy h.c1))
 c2:=eJ h.c2 (hs _ (iy h.c2))
 c3:=eJ h.c3 (hs _ (iy h.c3))
 cv:=eJ h.cv (hs _ (iy h.cv))
 gp:=h.gp.same (hs _ h.gp.lt)
 ma:=h.ma.same (hs _ h.ma.lt)
 md:=h.md.same (hs _ h.md.lt)
 mv:=h.mv.same (hs _ h.mv.lt)
 mi:=fun x hx=>(h.mi x hx).same (hs _ (h.mi x hx).lt)
 nd:=h.nd
 low:=h.low
 ev:=fun x hx=>(h.ev x hx).cells fun c arr e fz hc=>by rw[hs _ (Ac.1 hc).1];exact hc
abbrev oB (w:World):Inhabited aI:=⟨⟨False,w.heap⟩⟩
theorem LY (w:World): @ef (oB w) w:=by intro b _;rfl
theorem Lf {w:World} {n b bk ba bd bs bv:Nat} {G:bC} {m:bB} (h:cB w n b bk ba bd bs bv G) (g:dW G m) (ok:iK m) (hov:∀e∈m.kept,e.over.length<=100000): @eC (oB w) b m:=
 letI:Inhabited aI:=oB w
 ⟨ok,hov,fun w' hw=>⟨n,bk,ba,bd,bs,bv,G,h.heap fun i hi=>hw i hi,g⟩⟩
theorem Tryz.apply {w:World} {n b bk ba bd bs bv:Nat} {G:bC} {m:bB} {e:ae} {u:Value} (h:cB w n b bk ba bd bs bv G) (hg:dW G m) (hn:n<=w.heap.size) (hu:fC w u e) (hse:jw e) (hover:e.over.length<=100000) (ok:iK m):
  Calls Tryz.prog 30 #[.pointer (some ⟨b,0,none⟩),u] w fun e' w'=>e'= .returned (.tuple #[.bool (dw m e).2.1, .int .i64 (dw m e).2.2])/\Below n w w'/\ic w w'/\ ∃G',cB w' n b bk ba bd bs bv G'/\dW G' (dw m e).1:=by
 letI:Inhabited aI:=⟨⟨True,#[]⟩⟩
 have hseq:=zL ok.seq;have hl:G.kept.length<=100000:=by rw[hg.len];have:=ok.kept;omega
 cases hA:(dw m e).2.1 with
 |false=>
  refine(PO h hg hu hse hl hseq hA).mono ?_;rintro e' w' ⟨rfl,he,hb⟩;exact⟨rfl,hb.mono hn,cA hb,G,h.below hb,by rw[he];exact hg⟩
 |true=>
  have hq:eS e=true/\ct m.ctx e.dot=false/\getM m.ctx e.dot.dev e.dot.inc+1=e.dot.seq/\ ¬2048<=m.kept.length/\(dw m e).2.2=0:=by
    unfold dw at hA⊢;split at hA
    . cases hA
    split at hA
    . cases hA
    split at hA
    . cases hA
    split at hA
    . cases hA
    rename_i q1 q2 q3 q4;rw[Ai q1,Ai q2,Ai q3,Ai q4];exact⟨by simpa using q1,by simpa using q2,by simpa using q3,q4,rfl⟩
  obtain⟨q1,q2,q3,q4,q5⟩:=hq;rw[q5];refine(PG h hg hn hu hse hover hseq q1 q2 q3 q4).mono ?_;rintro e' w' ⟨rfl,hb,G',h1,h2⟩;have hmaps:=h.maps;refine⟨rfl,⟨hb.os,hb.tape,hb.output,hb.size,fun k hk=>hb.block k (by omega) fun hm=>?_⟩,fun c arr ty fz hc=>?_,G',h1,h2⟩
  . have:=h.low k (by unfold dx at hm;simp only[Al]at hm⊢;exact .inr (.inr hm));omega
  . rw[hb.block c (Ac.1 hc).1 fun hm=>?_]
    . exact hc
    . obtain⟨es,clk,he⟩:=hmaps c hm;rw[hc]at he;cases he
end
section
variable [Inhabited aI]
abbrev Mp:=Option (Nat×bB)
def Mp.arg:Mp->SV|none=> .aF|some y=> .wp ⟨y.1,0,none⟩
def Mp.m:Mp->bB|none=>⟨[],[],[]⟩|some y=>y.2
def Mp.at:Mp->Prop|none=>True|some y=>eC y.1 y.2
noncomputable def Mp.fX (c:FuncId->Option aQ):Mp->FuncId->Option aQ|none=>bS|some _=>c
noncomputable def Mp.lH (a:Nat×bB->FuncId->Nat->Option aK):Mp->FuncId->Nat->Option aK|none=>fun _ _=>none|some y=>a y
end
section
variable [Inhabited aI]
end
section
section
variable [Inhabited aI]
end
end
theorem Kq [Inhabited aI] {l:List ae} {i:Nat} (h:i<l.length):foldM (l.take (i+1))=(dw (foldM (l.take i)) l[i]).1:=pG (fun m e=>(dw m e).1) kN h
theorem Fy [Inhabited aI] {m:bB} {e x:ae} (h:x∈(dw m e).1.kept):x∈m.kept\/x=e:=by
 unfold dw at h;split at h
 . exact .inl h
 split at h
 . exact .inl h
 split at h
 . exact .inl h
 split at h
 . exact .inl h
 unfold ff at h;rcases A6.1 h with h|h
 . exact .inl (EN h)
 . rcases Al.1 h with h|h
   . exact .inr h
   . exact .inl (List.mem_of_mem_drop h)
theorem CX [Inhabited aI] (l:List ae) {x:ae} (h:x∈(foldM l).kept):x∈l:=by
 have key:∀(l:List ae) (m:bB),x∈(l.foldl (fun m e=>(dw m e).1) m).kept->x∈m.kept\/x∈l:=by
   intro l;induction l with
   |nil=>intro m h;exact .inl h
   |cons e l ih=>
    intro m h;rcases ih _ h with h|h
    . rcases Fy h with h|rfl
      . exact .inl h
      . exact .inr Ap
    . exact .inr (Aw _ h)
 rcases key l kN h with h|h
 . cases h
 . exact h
theorem zi {w:World} {n b bk ba bd bs bv:Nat} {G:bC} {l:List ae} (h:cB w n b bk ba bd bs bv G) (g:dW G (foldM l)) (hl:qf l): @eC (oB w) b (foldM l):=by
 letI:Inhabited aI:=oB w
 have hb:=pI hl.2 l.length (Aj _);rw[Bn]at hb;exact Lf h g (hb.ok (by have:=hl.1;omega)) fun e he=>by
  have:=(re (hl.2 e (CX l he))).2;omega
section
variable [Inhabited aI]
end
section
section
variable [Inhabited aI]
end
theorem cell_of {w:World} {b o:Nat} {arr:Array Value} {ty:TypeId} {fz:Nat×Nat} (h:w.heap[b]? =some (.cells arr ty fz)):w.cell? ⟨b,o,none⟩=arr[o]? :=by simp[World.cell?,h]
end
def chunk (n:Nat) (s:List ak):List (List ak):=match n with
 |0=>[]
 |n+1=>if s=[]then[]else s.take 64::chunk n (s.drop 64)
section
structure kq where
 kind:Int
 item:ag
 over:List ak
def kq.enc (x:kq):List SV:=[.int .i64 x.kind, .str x.item.key.name, .str x.item.key.domain, .str x.item.key.path, .str x.item.aa.value, .bool x.item.aa.aR, .bool x.item.aa.bG, .bool x.item.aa.aS, .bool x.item.aa.persistent,
 .int .i64 x.item.aa.bp, .int .i64 x.item.aa.aG, .int .i64 x.item.aa.access,cf x.over]
section
variable [Inhabited aI]
end
end
section
section
variable [Inhabited aI]
end
end
section
variable [Inhabited aI]
structure okC (c:List ak):Prop where
 ne:c≠[]
 le:c.length<=64
 dot:∀d∈c,eB d=true
 own:∀d∈c,¬(d.dev=63/\d.inc=1048576)
 up:c.Pairwise fun x y=>bR x y=true
end
section
def gI (w:World) (u:Value) (m:bB):Prop:=∃vc vk vd,u= .agg #[vc,vk,vd]/\cy w m.ctx vc/\dV w m.kept vk/\cy w m.dead vd
theorem gI.cells {w w':World} (hc:ic w w') {u:Value} {m:bB} (h:gI w u m):gI w' u m:=by
 obtain⟨vc,vk,vd,h1,h2,h3,h4⟩:=h;exact⟨vc,vk,vd,h1,h2.cells hc,h3.cells hc,h4.cells hc⟩
section
variable [Inhabited aI]
theorem OG {w:World} {p:Nat->Prop} {g:Bool} {m:bB} {u:Value} (h:Rd w p g (.agg m.enc) u):gI w u m:=by
 cases h with
 | @agg cs vs h1 h2=>
  obtain⟨l⟩:=vs;match l,h1 with
  |[x,y,z],_=>exact⟨x,y,z,rfl,tR (h2 0 _ _ rfl rfl),Gu (h2 1 _ _ rfl rfl),tR (h2 2 _ _ rfl rfl)⟩
end
end
structure gm (b0:Nat) (w w':World):Prop where
 same:∀i,i≠b0->w'.heap[i]? =w.heap[i]?
 bare:∀arr e fz,w.heap[b0]? =some (.cells arr e fz)->∀(i:Nat) (k:IntKind) (z:Int),arr[i]? ≠some (Value.int k z)
theorem cy.box {w w':World} {b0:Nat} (hb:gm b0 w w') {l:List ak} {v:Value} (h:cy w l v):cy w' l v:=by
 rcases h with h|⟨b,off,cap,arr,e,fz,rfl,h2,h3,h4,h5⟩
 . exact .inl h
 . by_cases h0:l=[]
   . subst h0;exact .inl ⟨rfl,_,_,rfl⟩
   . refine .inr ⟨b,off,cap,arr,e,fz,rfl,?_,h3,h4,h5⟩;rw[hb.same b fun eb=>?_]
     . exact h2
     . subst eb;exact hb.bare arr e fz h2 _ _ _ (h5 0 (Bb.2 h0)).1
theorem dV.box {w w':World} {b0:Nat} (hb:gm b0 w w') {l:List ae} {v:Value} (h:dV w l v):dV w' l v:=by
 rcases h with h|⟨b,off,cap,arr,e,fz,rfl,h2,h3,h4,h5⟩
 . exact .inl h
 . by_cases h0:l=[]
   . subst h0;exact .inl ⟨rfl,_,_,rfl⟩
   . refine .inr ⟨b,off,cap,arr,e,fz,rfl,?_,h3,h4,fun i hi=>by obtain⟨u,k1,k2⟩:=h5 i hi;exact⟨u,k1,k2.box hb⟩⟩;rw[hb.same b fun eb=>?_]
     . exact h2
     . subst eb;obtain⟨u,k1,_⟩:=h5 0 (Bb.2 h0);exact hb.bare arr e fz h2 _ _ _ (k1 0 (by omega))
theorem gI.box {w w':World} {b0:Nat} (hb:gm b0 w w') {u:Value} {m:bB} (h:gI w u m):gI w' u m:=by
 obtain⟨vc,vk,vd,h1,h2,h3,h4⟩:=h;exact⟨vc,vk,vd,h1,h2.box hb,h3.box hb,h4.box hb⟩
theorem cB.box {w w':World} {n b bk ba bd bs bv b0:Nat} {G:bC} (h:cB w n b bk ba bd bs bv G) (hb:gm b0 w w') (h0:b0<n):cB w' n b bk ba bd bs bv G:=by
 have hl:=h.low;simp only[Al,Ar]at hl;have ne:∀j,n<=j->w'.heap[j]? =w.heap[j]? :=fun j hj=>hb.same j (by omega)
 exact⟨eJ h.c0 (ne _ (hl _ (.inl rfl))),eJ h.c1 (ne _ (hl _ (.inl rfl))),eJ h.c2 (ne _ (hl _ (.inl rfl))),eJ h.c3 (ne _ (hl _ (.inl rfl))),eJ h.cv (ne _ (hl _ (.inr (.inl rfl)))),
  h.gp.same (ne _ (hl _ (.inr (.inr (.inl rfl))))),h.ma.same (ne _ (hl _ (.inr (.inr (.inr (.inl rfl)))))),h.md.same (ne _ (hl _ (.inr (.inr (.inr (.inr (.inl rfl))))))),h.mv.same (ne _ (hl _ (.inr (.inr (.inr (.inr (.inr (.inl rfl)))))))),
  fun x hx=>(h.mi x hx).same (ne _ (hl _ (.inr (.inr (.inr (.inr (.inr (.inr ⟨x,hx,rfl⟩)))))))),h.nd,h.low,fun x hx=>by obtain⟨v,k1,k2⟩:=h.ev x hx;exact⟨v,k1,k2.box hb⟩⟩
theorem pF {w:World} {b o:Nat} {arr:Array Value} {ty:TypeId} {fz:Nat×Nat} (h:w.heap[b]? =some (.cells arr ty fz)) (v:Value):(w.setCell ⟨b,o,none⟩ v).heap[b]? =some (.cells (arr.setIfInBounds o v) ty fz):=by
 have h4:=(Ac.1 h).2;simp only[World.setCell,Dt,h];simp
theorem wJ {w:World} {b o:Nat} {arr:Array Value} {ty:TypeId} (h:w.heap[b]? =some (.cells arr ty (0,0))):w.frozen? ⟨b,o,none⟩=false:=by simp[World.frozen?,h]
theorem Gd {w:World} {b:Nat} (h:w.heap[b]? =some (.cells #[.slice none 0 0, .slice none 0 0, .slice none 0 0] 38 (0,0))) (x y z:Value):∃W1 W2 W3,w.setCell ⟨b,0,none⟩ x=W1/\W1.setCell ⟨b,1,none⟩ y=W2/\W2.setCell ⟨b,2,none⟩ z=W3/\
   w.cell? ⟨b,0,none⟩=some (.slice none 0 0)/\w.frozen? ⟨b,0,none⟩=false/\W1.cell? ⟨b,1,none⟩=some (.slice none 0 0)/\W1.frozen? ⟨b,1,none⟩=false/\W2.cell? ⟨b,2,none⟩=some (.slice none 0 0)/\W2.frozen? ⟨b,2,none⟩=false/\
   W3.cell? ⟨b,0,none⟩=some x/\W3.cell? ⟨b,1,none⟩=some y/\W3.cell? ⟨b,2,none⟩=some z/\gm b w W3/\ ∀B,B<=b->Below B w W3:=by
 have h1:=pF (o:=0) h x;have h2:=pF (o:=1) h1 y;have h3:=pF (o:=2) h2 z;refine⟨_,_,_,rfl,rfl,rfl,cell_of h,wJ h,cell_of h1,wJ h1,cell_of h2,wJ h2,cell_of h3,cell_of h3,cell_of h3,⟨fun i hi=>?_,fun arr e fz ha i k q=>?_⟩,fun B hB=>?_⟩
 . rw[Below.heap_setCell _ _ _ _ hi,Below.heap_setCell _ _ _ _ hi,Below.heap_setCell _ _ _ _ hi]
 . rw[h]at ha
   cases ha;match i with
   |0|1|2=>intro e;cases e
   |_+3=>intro e;cases e
 . exact(((Below.refl B w).setCell hB x).setCell hB y).setCell hB z
theorem Qa {w:World} {b:Nat} {x y z:Value} (h0:w.cell? ⟨b,0,none⟩=some x) (h1:w.cell? ⟨b,1,none⟩=some y) (h2:w.cell? ⟨b,2,none⟩=some z):(loadVar 38 ⟨b,0,none⟩).run Tryz.prog w= .ok (.agg #[x,y,z]) w:=by
 have h:w.rangeAt b 0 [x,y,z]:=fun j v hj=>by
  match j with
  |0=>cases hj;exact h0
  |1=>cases hj;exact h1
  |2=>cases hj;exact h2
  |_+3=>cases hj
 exact run_loadVar_mid w b 0 38 [x,y,z] _ h Tryz.underlying38 rfl (by kernel_rfl)
theorem Ig {fn:Func} {s t:Tmp} {ty:TypeId} (h:fn.results=#[.tmp s, .cell t ty]) {tmps:Array Value} {w:World} {a:Addr} {v:Value} (hp:tmps.getD t undef= .pointer (some a)) (hl:(loadVar ty a).run Tryz.prog w= .ok v w):(results fn tmps).run Tryz.prog w= .ok (.tuple #[tmps.getD s undef,v]) w:=by
 have hp':tmps[t]?.getD undef= .pointer (some a):=by simpa using hp
 simp[results,h,asAddr,hp',hl]
theorem cB.mono {w:World} {n k b bk ba bd bs bv:Nat} {G:bC} (h:cB w n b bk ba bd bs bv G) (hk:k<=n):cB w k b bk ba bd bs bv G:={h with low:=fun j hj=>AW hk (h.low j hj)}
theorem Tryz.fold {l:List ae} {v:Value} {w:World} (hv:dV w l v) (hl:qf l):Calls Tryz.prog 31 #[v] w fun e w'=>∃u,e= .returned u/\gI w' u (foldM l)/\Below w.heap.size w w':=by
 letI:Inhabited aI:=⟨⟨True,#[]⟩⟩
 have h:=mY bJ.ok Of (fn:=Tryz.f31) (hfn:=by kernel_rfl) (hb:=rfl) (y:=l) hl (args:=[v]) (w:=w) (PL.cons (F0 (wX l) (xQ hv)) PL.nil) (ef.pB rfl _);refine Calls.mono h ?_;rintro e w' ⟨u,rfl,hu,hb,_⟩;exact⟨u,rfl,OG hu,hb⟩
theorem G6 {l:List ae} {v:Value} {w:World} (hv:dV w l v) (hlt:qf l) (hl30:l.length<=30):
  Calls Tryz.prog 11 #[v] w fun e w'=>∃b bk ba bd bs bv G u,e= .returned (.tuple #[.pointer (some ⟨b,0,none⟩),u])/\cB w' w.heap.size b bk ba bd bs bv G/\dW G (foldM l)/\gI w' u (foldM l)/\Below w.heap.size w w':=by
 obtain⟨sa,sc,rfl⟩:=hv.one;obtain⟨W0,hW0⟩:∃W0,w.alloc (.cells #[.slice none 0 0, .slice none 0 0, .slice none 0 0] 38)=W0:=⟨_,rfl⟩;have hbW0:Below w.heap.size w W0:=by rw[<-hW0];exact(Below.refl _ _).alloc (Aj _) _
 have sW0:W0.heap.size=w.heap.size+1:=by rw[<-hW0];exact DC _
 have hbx:W0.heap[w.heap.size]? =some (.cells #[.slice none 0 0, .slice none 0 0, .slice none 0 0] 38 (0,0)):=by rw[<-hW0];exact World.alloc_heap_new _ _
 have hv0:=hv.cells (cA hbW0);have hnew:=Qx W0;go_enter Tryz.func11,Tryz.ntmps11
 go_wp2_with (go_at_call 29;refine hnew.mono ?_;rintro e w2 ⟨b,bk,ba,bd,bs,bv,rfl,hO,hb2⟩)
 have hv2:=hv0.cells (cA hb2);go_loopw [5] (fun i wr=>∃(k:Nat) (G:bC),k<=l.length/\i= .int .i64 k/\dV wr l (.slice sa l.length sc)/\cB wr W0.heap.size b bk ba bd bs bv G/\dW G (foldM (l.take k))/\Below W0.heap.size W0 wr)
  (fun i _=>l.length - (intOf i).toNat)
 case atStart=>exact⟨0,_,Ax _,rfl,hv2,hO,QL,hb2⟩
 case round=>
  obtain⟨k,G,hk,rfl,hvr,hOr,hgr,hbr⟩:=hrel;by_cases hlt2:k<l.length
  . obtain⟨bb,off,cap,arr,ty,fz,hsl,hbb,hcap,hsz,hcells⟩:=hvr.resolve_left (fun h=>by rw[h.1]at hlt2;exact absurd hlt2 (Br _));simp only[Value.slice.injEq]at hsl;obtain⟨rfl, -,rfl⟩:=hsl;obtain⟨u,hcu,hdu⟩:=hcells k hlt2;have hld:=pj hbb hcu;have hlk:=hlt.2 l[k] (Au hlt2);obtain⟨hsm,hov⟩:= @re ⟨⟨True,#[]⟩⟩ _ hlk;have hok:iK (foldM (l.take k)):= @eD.ok ⟨⟨True,#[]⟩⟩ _ _ (@pI ⟨⟨True,#[]⟩⟩ l hlt.2 k hk) (by omega);have happ:=Tryz.apply hOr hgr hbr.size (e:=l[k]) (u:=fM l[k] u) ⟨u,rfl,hdu⟩ hsm (by omega) hok;obtain⟨SZ,mm,hSZ,hsz2,hm⟩:=pR;obtain⟨cs,hcs⟩:∃cs:Array Value,(cq l[k] u).toArray=cs:=⟨_,rfl⟩;have hcz:cs.size=mm:=by rw[<-hcs];exact(show(19:Nat)=mm from EG hm)
    rw[show fM l[k] u= .agg cs from by rw[<-hcs];rfl]at happ;rw[hcs,<-(hm:mm=19)]at hld;clear hbx;go_wp2_with (go_at_call 30;refine happ.mono ?_;rintro e wn ⟨rfl,hbn,hcn,G',hO',hg'⟩)
    exact⟨⟨k+1,G',hlt2,by go_num,hvr.cells hcn,hO',by rw[@Kq ⟨⟨True,#[]⟩⟩ l k hlt2];exact hg',hbr.trans hbn⟩,by simp[intOf];omega⟩
  . have hkl:k=l.length:=by omega
    subst hkl;rw[Bn]at hgr;have hfold:=Tryz.fold hvr hlt;have hbxr:=(hbr.block _ (Ac.1 hbx).1).trans hbx;go_wp2_with (go_at_call 31;refine hfold.mono ?_;rintro e w3 ⟨u,rfl,⟨vc,vk,vd,rfl,hm1,hm2,hm3⟩,hb3⟩;have hbx3:=(hb3.block _ (Ac.1 hbxr).1).trans hbxr;obtain⟨ca,na,pa,rfl⟩:=hm1.one;obtain⟨ck,pk,rfl⟩:=hm2.one;obtain⟨cd,nd,pd,rfl⟩:=hm3.one;obtain⟨W1,W2,W3,e1,e2,e3,c0,f0,c1,f1,c2,f2,g0,g1,g2,hbb,hbel⟩:=Gd hbx3 (.slice ca na pa) (.slice ck (foldM l).kept.length pk) (.slice cd nd pd);clear hbx3)
    refine bodyPost_ret (Ig rfl rfl (Qa g0 g1 g2)) rfl ?_;have hm:gI W3 (.agg #[.slice ca na pa, .slice ck (foldM l).kept.length pk, .slice cd nd pd]) (foldM l):=⟨_,_,_,rfl,hm1.box hbb,hm2.box hbb,hm3.box hbb⟩;have hO3:=(hOr.below hb3).box hbb (show w.heap.size<W0.heap.size by omega);refine⟨b,bk,ba,bd,bs,bv,G,_,rfl,hO3.mono (by omega),hgr,hm,?_⟩;have h1:=AW hbW0.size hbr.size;exact((hbW0.trans (hbr.mono hbW0.size)).trans (hb3.mono h1)).trans (hbel _ (Aj _))
section
section
variable [Inhabited aI]
end
end
theorem GC (w:World) (x y z:Value):∃W1 W2 W3,(w.alloc (.cells #[.slice none 0 0, .slice none 0 0, .slice none 0 0] 38)).setCell ⟨w.heap.size,0,none⟩ x=W1/\W1.setCell ⟨w.heap.size,1,none⟩ y=W2/\W2.setCell ⟨w.heap.size,2,none⟩ z=W3/\
  (w.alloc (.cells #[.slice none 0 0, .slice none 0 0, .slice none 0 0] 38)).cell? ⟨w.heap.size,0,none⟩=some (.slice none 0 0)/\(w.alloc (.cells #[.slice none 0 0, .slice none 0 0, .slice none 0 0] 38)).frozen? ⟨w.heap.size,0,none⟩=false/\W1.cell? ⟨w.heap.size,1,none⟩=some (.slice none 0 0)/\W1.frozen? ⟨w.heap.size,1,none⟩=false/\W2.cell? ⟨w.heap.size,2,none⟩=some (.slice none 0 0)/\W2.frozen? ⟨w.heap.size,2,none⟩=false/\
  W3.heap[w.heap.size]? =some (.cells #[x,y,z] 38 (0,0))/\Below w.heap.size w W3:=by
 have hb:(w.alloc (.cells #[.slice none 0 0, .slice none 0 0, .slice none 0 0] 38)).heap[w.heap.size]? =some (.cells #[.slice none 0 0, .slice none 0 0, .slice none 0 0] 38 (0,0)):=World.alloc_heap_new _ _;obtain⟨W1,W2,W3,e1,e2,e3,c0,f0,c1,f1,c2,f2,g0,g1,g2,hbb,hbel⟩:=Gd hb x y z;have h1:=pF (o:=0) hb x;rw[e1]at h1;have h2:=pF (o:=1) h1 y;rw[e2]at h2;have h3:=pF (o:=2) h2 z;rw[e3]at h3;exact⟨W1,W2,W3,e1,e2,e3,c0,f0,c1,f1,c2,f2,h3,((Below.refl _ _).alloc (Aj _) _).trans (hbel _ (Aj _))⟩
theorem Co [Inhabited aI] {w:World} {tmps:Array Value} {ts:Fr} {t b:Nat} {m:bB} {vc vk vd:Value} {fz:Nat×Nat} (h1:tmps[t]? =some (.pointer (some ⟨b,0,none⟩))) (hb:w.heap[b]? =some (.cells #[vc,vk,vd] 38 fz))
  (hc:cy w m.ctx vc) (hk:dV w m.kept vk) (hd:cy w m.dead vd) (h:eH Tryz.tab w tmps ts):eH Tryz.tab w tmps ((t, .cE m.enc 0)::ts):=by
 have hlt:=(Ac.1 hb).1;refine h.put (av:= .ptr b 0) h1 (fun E hE=>by simp[ab,hE b hlt]) ?_;have hg:(bV Tryz.tab w).get b=some (.cells [cQ w.heap.size vc,cQ w.heap.size vk,cQ w.heap.size vd] 38 ((Tryz.tab.siz.get 38).getD 1) false .ro):=by
  rw[tN];unfold jm;rw[hb];rfl
 refine .cE b 0 _ 38 _ false .ro (fun j=>([cQ w.heap.size vc,cQ w.heap.size vk,cQ w.heap.size vd]:List AV)[j]?.getD .aF) hg (Aj 3) (fun j v hj=>?_) (fun j v hj=>?_)
 all_goals
  have hj3:j<3:=(Ah.1 hj).1;match j,hj3 with
  |0,_=>cases hj;first|rfl|exact uA (wI _) (xu hc)
  |1,_=>cases hj;first|rfl|exact uA (wX _) (xQ hk)
  |2,_=>cases hj;first|rfl|exact uA (wI _) (xu hd)
def rT (u:Value) (e:ae):Prop:=∃a c,u=fM e (.slice a 0 c)
theorem Ng {w:World} {u:Value} {e:ae} (h:rT u (fA e)):fC w u (fA e):=by
 obtain⟨a,c,rfl⟩:=h;exact⟨_,rfl, .inl ⟨rfl,a,c,rfl⟩⟩
theorem OB [Inhabited aI] {w:World} {p:Nat->Prop} {g:Bool} {e:ae} {u:Value} (h:Rd w p g (.agg e.enc) u):fC w u e:=by
 cases h with
 | @agg cs vs h1 h2=>
  obtain⟨l⟩:=vs;have hlen:l.length=19:=h1.symm;match l,hlen with
  |[a0,a1,a2,a3,a4,a5,a6,a7,a8,a9,a10,a11,a12,a13,a14,a15,a16,a17,a18],_=>
   have e0:=iz (h2 0 _ _ rfl rfl);have e1:=iz (h2 1 _ _ rfl rfl);have e2:=iz (h2 2 _ _ rfl rfl);have e3:=iz (h2 3 _ _ rfl rfl);have e4:=iz (h2 4 _ _ rfl rfl);have e5:=iz (h2 5 _ _ rfl rfl);have e6:=iz (h2 6 _ _ rfl rfl);have e7:=rJ (h2 7 _ _ rfl rfl);have e8:=rJ (h2 8 _ _ rfl rfl);have e9:=rJ (h2 9 _ _ rfl rfl);have e10:=rJ (h2 10 _ _ rfl rfl);have e11:=rA (h2 11 _ _ rfl rfl);have e12:=rA (h2 12 _ _ rfl rfl);have e13:=rA (h2 13 _ _ rfl rfl);have e14:=rA (h2 14 _ _ rfl rfl);have e15:=iz (h2 15 _ _ rfl rfl);have e16:=iz (h2 16 _ _ rfl rfl);have e17:=iz (h2 17 _ _ rfl rfl);have e18:=tR (h2 18 _ _ rfl rfl);subst e0 e1 e2 e3 e4 e5 e6 e7 e8 e9 e10 e11 e12 e13 e14 e15 e16 e17;exact⟨a18,rfl,e18⟩
theorem G3 {w:World} {e:ae} {u:Value} (h:fC w u e):Calls Tryz.prog 35 #[u] w fun e' w'=>∃u',e'= .returned u'/\rT u' (fA e)/\Below w.heap.size w w':=by
 letI:Inhabited aI:=⟨⟨True,#[]⟩⟩
 refine Calls.mono (mY bJ.ok OJ (fn:=Tryz.f35) (hfn:=by kernel_rfl) (hb:=rfl) (y:=e) trivial (args:=[u]) (w:=w) (PL.cons (uz h) PL.nil) (ef.pB rfl _)) ?_;rintro e' w' ⟨v,rfl,hv,hb,_⟩;obtain⟨x,rfl,hx⟩:=OB hv;refine⟨_,rfl,?_,hb⟩;rcases hx with⟨-,a,c,rfl⟩|⟨b,off,cap,arr,ty,fz,rfl,hh⟩
 . exact⟨a,c,rfl⟩
 . exact⟨_,_,rfl⟩
theorem QW {w:World} {x y:ae} {u v:Value} (hx:fC w u x) (hy:fC w v y) (fx:iJ x.over) (fy:iJ y.over):Calls Tryz.prog 36 #[u,v] w fun e' w'=>e'= .returned (.bool (decide (x=y)))/\Below w.heap.size w w':=
 qo (C:=fun I=>qd) (fun I=> @ND I) (hfn:=rfl) (hb:=rfl) (args:=[u,v]) (fun I=>⟨(x,y),⟨fx,fy⟩,PL.cons (@uz I _ _ _ _ hx) (PL.cons (@uz I _ _ _ _ hy) PL.nil),rfl⟩)
structure ed (w:World) (bm:Nat) (l:List ae) (K:List (ak×(Value×ae))):Prop where
 map:aw w bm aX iU K
 is:K.map (fun x=>(x.1,x.2.2))=l.map fun e=>(e.dot,fA e)
 bare:∀x∈K,rT x.2.1 x.2.2
theorem ed.keys {w:World} {bm:Nat} {l:List ae} {K:List (ak×(Value×ae))} (h:ed w bm l K):K.map (·.1)=l.map (·.dot):=by
 have:=Ay (List.map (·.1)) h.is;rw[B6,B6]at this;exact this
theorem ed.put {w w':World} {bm:Nat} {l:List ae} {K:List (ak×(Value×ae))} {e:ae} {u:Value} (h:ed w bm l K) (hn:e.dot∉l.map (·.dot)) (hu:rT u (fA e)) (hm:aw w' bm aX iU (bN K e.dot (u,fA e))):ed w' bm (l++[e]) (K++[(e.dot,(u,fA e))]):=by
 have hp:bN K e.dot (u,fA e)=K++[(e.dot,(u,fA e))]:=by
   unfold bN;rw[Ai (by rw[h.keys];exact hn)]
 rw[hp]at hm;refine⟨hm,by rw[AF,h.is,AF];rfl,fun x hx=>?_⟩;rcases A6.1 hx with hx|hx
 . exact h.bare x hx
 . rw[BQ.1 hx];exact hu
theorem ed.none {w:World} {bm:Nat} {l:List ae} {K:List (ak×(Value×ae))} (h:ed w bm l K) {y:ae} (hg:az K y.dot=none):(l.all fun x=>gU x y)=true:=by
 rw[Aq];intro x hx;have hk:=bI.1 hg;rw[h.keys]at hk;unfold gU;rw[AU (fun e=>hk (Ar.2 ⟨x,hx,e⟩))];rfl
theorem ed.some {w:World} {bm:Nat} {l:List ae} {K:List (ak×(Value×ae))} (h:ed w bm l K) {y:ae} {z:Value×ae} (hg:az K y.dot=some z):rT z.1 z.2/\z.2.over=[]/\(l.all fun x=>gU x y)=decide (z.2=fA y):=by
 have hz:=jJ hg;refine⟨h.bare _ hz,?_⟩;have h1:(y.dot,z.2)∈l.map fun e=>(e.dot,fA e):=by rw[<-h.is];exact Ar.2 ⟨_,hz,rfl⟩
 obtain⟨x,hx,hxe⟩:=Ar.1 h1;simp only[By]at hxe;obtain⟨hd,hb⟩:=hxe;refine⟨by rw[<-hb];rfl,?_⟩;rw[<-hb,AE,Aq,Ae];have hnd:(l.map (·.dot)).Nodup:=by rw[<-h.keys];exact h.map.nd
 constructor
 . intro ha;have:=ha x hx;unfold gU at this;rw[A7 hd]at this;simpa using this
 . intro he x' hx';unfold gU;by_cases e:x'.dot=y.dot
   . have:x'=x:=by
      obtain⟨i,hi,rfl⟩:=AS hx;obtain⟨j,hj,rfl⟩:=AS hx';have hij:j=i:=(List.getElem_inj (xs:=l.map (·.dot)) (h₀:=by simpa using hj) (h₁:=by simpa using hi) hnd).1 (by simp;rw[e,hd]);subst hij;rfl
     subst this;rw[A7 he,Dp]
   . rw[AU e];rfl
theorem CL {a b:List ae}:(a.all fun x=>b.all fun y=>gU x y)=b.all fun y=>a.all fun x=>gU x y:=by
 rw[AE];simp only[Aq];exact⟨fun h y hy x hx=>h x hx y hy,fun h x hx y hy=>h y hy x hx⟩
theorem Kl {l:List ae} (hs:l.Pairwise fun x y=>bR x.dot y.dot=true) {k:Nat} (hk:k<l.length):l[k].dot∉(l.take k).map (·.dot):=by
 letI:Inhabited aI:=⟨⟨True,#[]⟩⟩
 intro h;obtain⟨x,hx,he⟩:=Ar.1 h;obtain⟨j,hj,rfl⟩:=AS hx;have hjk:j<k:=by simpa using(List.length_take_le k l|>fun h1=>AK hj h1)
 have:=Bf.1 hs j k (by omega) hk hjk;rw[Eb]at he;rw[he,pE]at this
 cases this
theorem vm (w5:World) (e:ae) (v:Value) (hv:v.oneCell'=true):∃W7,(storeCells ⟨w5.heap.size,0,none⟩ (cq e v).toArray.toList).run Tryz.prog (w5.alloc (.cells c7 75))= .ok () W7/\W7.rangeAt w5.heap.size 0 (cq e v)/\Below w5.heap.size w5 W7/\W7.heap.size=w5.heap.size+1:=by
 have hth:(w5.alloc (.cells c7 75)).there w5.heap.size 0 19:=vL w5 c7;obtain⟨_,hst⟩:=G0 (e:=e) (v:=v) hv hth;have r5:=World.rangeAt_setCells_same (w5.alloc (.cells c7 75)) w5.heap.size 0 (cq e v) hth;refine⟨_,hst,r5,sJ (Aj _) _ _ _ ((Below.refl w5.heap.size w5).alloc (Aj _) _),?_⟩;rw[size_setCells];exact DC _
theorem MA {n:Nat} {w w':World} {b:Nat} {o:Obj} (h:Below n w w') (hb:n<=b):Below n w (World.aJ w' b o):=⟨h.os,h.tape,h.output,by rw[show(World.aJ w' b o).heap.size=w'.heap.size by simp[World.aJ]];exact h.size,fun i hi=>by
 show(w'.heap.setIfInBounds b o)[i]? =_
 rw[Bt,Ai (by omega)];exact h.block i hi⟩
theorem Gt {w:World} {n:Nat} {l:List ae} {v:Value} (h:iX w n l v):dV w l v:=by
 obtain⟨L,rfl,hd,hlen,hr⟩:=h;rcases hr with⟨rfl,h0⟩|⟨g,cap,cur,rfl,hp,hb,hc,hm,hsz,htk⟩
 . exact .inl ⟨by simpa using h0,none,0,rfl⟩
 . have cell:∀i (hi:i<L.length) j,j<19->cur[i*19+j]? =(cq L[i].1 L[i].2)[j]? :=fun i hi j hj=>by
     rw[<-E2 L i hi j hj,<-htk,Bh,An (by omega),BS]
   refine .inr ⟨g,0,cap,cur,75,(0,0),by simp,hb,by simpa using hc,by simp;omega,fun i hi=>?_⟩;have hil:i<L.length:=by simpa using hi
   refine⟨L[i].2,fun j hj=>?_,?_⟩
   . rw[AG,cell i hil j hj];simp
   . have:=hd _ (Au hil);simpa using this.cf
theorem QO {w:World} {n b bk ba bd bs bv:Nat} {G:bC} {m:bB} {n' b' bk' ba' bd' bs' bv':Nat} {G':bC} {m':bB} (hO:cB w n b bk ba bd bs bv G) (hG:dW G m) (hok:iK m) (hov:∀e∈m.kept,e.over.length<=100000)
  (hO':cB w n' b' bk' ba' bd' bs' bv' G') (hG':dW G' m') (hok':iK m') (hov':∀e∈m'.kept,e.over.length<=100000):
  Calls Tryz.prog 14 #[.pointer (some ⟨b,0,none⟩), .pointer (some ⟨b',0,none⟩)] w fun e w'=>e= .returned (.int .i64 (iv m m'))/\Below w.heap.size w w':=by
 have hmm:= @run_makeMap Tryz.prog;have hkl:=hok.kept;have hkl':=hok'.kept;obtain⟨W0,hW0⟩:∃W0,w.alloc (.map #[] 0)=W0:=⟨_,rfl⟩;have hb0:Below w.heap.size w W0:=by rw[<-hW0];exact(Below.refl _ _).alloc (Aj _) _
 have hs0:W0.heap.size=w.heap.size+1:=by rw[<-hW0];exact DC _
 have hm0:aw W0 w.heap.size aX iU ([]:List (ak×(Value×ae))):=oc (by rw[<-hW0];exact World.alloc_heap_new _ _);have hev:=px (hO.below hb0) hG hok hov;go_enter Tryz.func14,Tryz.ntmps14
 go_wp2_with (go_at_call 32;refine hev.mono ?_;rintro e w1 ⟨v1,rfl,hE1,hb1⟩;have hV1:=Gt hE1;obtain⟨sa,sc,rfl⟩:=hV1.one)
 have hB1:Below w.heap.size w w1:=hb0.trans (hb1.mono hb0.size);have hm1:ed w1 w.heap.size [] []:=⟨hm0.same (hb1.block _ (by omega)),rfl,fun x hx=>by cases hx⟩;go_loopw [23] (fun i wr=>∃(k:Nat) (K:List (ak×(Value×ae))),k<=m.kept.length/\i= .int .i64 k/\dV wr m.kept (.slice sa m.kept.length sc)/\ed wr w.heap.size (m.kept.take k) K/\Below w.heap.size w wr)
  (fun i _=>m.kept.length - (intOf i).toNat)
 case atStart=>exact⟨0,[],Ax _,rfl,hV1,hm1,hB1⟩
 case round=>
  obtain⟨k,K,hk,rfl,hvr,hmr,hbr⟩:=hrel;by_cases hlt:k<m.kept.length
  . obtain⟨bb,off,cap,arr,ty,fz,hsl,hbb,hcap,hsz,hcells⟩:=hvr.resolve_left (fun h=>by rw[h.1]at hlt;exact absurd hlt (Br _));simp only[Value.slice.injEq]at hsl;obtain⟨rfl, -,rfl⟩:=hsl;obtain⟨u,hcu,hdu⟩:=hcells k hlt;have hmlt:w.heap.size<wr.heap.size:=Go.Gm.aw.lt hmr.map;have hld:=pj hbb hcu;obtain⟨e,he⟩:∃e,m.kept[k]=e:=⟨_,rfl⟩;have hfr:=Kl hG.sorted hlt;rw[he]at hld hdu hfr;obtain⟨SZ,mm,hSZ,hsz2,hm⟩:=pR;obtain⟨_,_,_,hu1⟩:=hdu.one;obtain⟨W7,hst,hr7,hb7,hs7⟩:=vm wr e u (by rw[hu1];rfl);obtain⟨cs,hcs⟩:∃cs:Array Value,Hid ((cq e u).toArray=cs):=⟨_,rfl⟩;obtain⟨k0,k1,k2,k6,k18,kl⟩:=cJ hr7 hcs hm;obtain⟨-, -, -, -, -,kl'⟩:=cJ (dT (cA (Below.refl W7.heap.size W7).drew) hr7) hcs hm;have hev7:fC W7.drew (.agg cs) e:=⟨u,by rw[<-(show(cq e u).toArray=cs from hcs)];rfl,(hdu.cells (cA hb7)).cells (cA (Below.refl W7.heap.size W7).drew)⟩;have hbare:=G3 hev7;have hcz:cs.size=mm:=by rw[<-(show(cq e u).toArray=cs from hcs)];exact(show(19:Nat)=mm from EG hm)
    have hm0:¬mm=0:=by have h:mm=19:=hm;omega
    have hmx:¬16777216<mm:=by have h:mm=19:=hm;omega
    rw[show(cq e u).toArray=cs from hcs,<-(show mm=19 from hm)]at hld;rw[show(cq e u).toArray=cs from hcs]at hst;unfold c7 at hst;clear hcu hsz hcells;go_wp2;go_region_held3 (fun w'=>w'.cell? ⟨wr.heap.size,0,none⟩=some (.int .i64 e.dot.dev)/\w'.cell? ⟨wr.heap.size,1,none⟩=some (.int .i64 e.dot.inc)/\w'.cell? ⟨wr.heap.size,2,none⟩=some (.int .i64 e.dot.seq)/\(loadCellsFrom ⟨wr.heap.size,0,none⟩ 0 mm #[]).run Tryz.prog w'= .ok cs w') (simp[*])
     (first|(go_at_call 35;refine hbare.mono ?_;rintro e' w6 ⟨u',rfl,hbv,hb6⟩;have r6:=dT (cA hb6) (dT (cA (Below.refl W7.heap.size W7).drew) hr7);obtain⟨f0,f1,f2,f6,f18,fl⟩:=cJ r6 hcs hm;have hm6:aw w6 w.heap.size aX iU K:=hmr.map.same ((hb6.block _ (by show w.heap.size<W7.heap.size;omega)).trans (hb7.block _ hmlt));obtain⟨es,clk,hup,hmu⟩:=hm6.update fJ Tryz.underlying83 e.dot (u',fA e);rw[show aX e.dot= .agg #[.int .i64 e.dot.dev, .int .i64 e.dot.inc, .int .i64 e.dot.seq]from rfl,show iU (u',fA e)=u' from rfl]at hup;have r8:(World.aJ w6 w.heap.size (.map es clk)).rangeAt wr.heap.size 0 (cq e u):=dT (sX (aw.isMap hm6)) r6;have hc8:ic w6 (World.aJ w6 w.heap.size (.map es clk)):=sX (aw.isMap hm6);have hb8:Below w.heap.size w (World.aJ w6 w.heap.size (.map es clk)):=MA (((hbr.trans (hb7.mono hbr.size)).drew).trans (hb6.mono (by have:=hbr.size;show _<=W7.heap.size;omega))) (Aj _);obtain⟨W8,hW8⟩:∃W8,World.aJ w6 w.heap.size (.map es clk)=W8:=⟨_,rfl⟩;rw[hW8]at hup r8 hc8 hb8 hmu;obtain⟨g0,g1,g2,g6,g18,gl⟩:=cJ r8 hcs hm;clear k0 k1 k2 k6 k18 kl))
    go_wp2;have hcA:ic wr W8:=fun q ar t fz' hx=>hc8 q ar t fz' (cA hb6 q ar t fz' (cA (Below.refl W7.heap.size W7).drew q ar t fz' (cA hb7 q ar t fz' hx)))
    have hput:=hmr.put hfr hbv hmu;rw[<-he,<-As hlt]at hput;exact⟨⟨k+1,_,hlt,by go_num,hvr.cells hcA,hput,hb8⟩,by simp[intOf];omega⟩
  . have hkl:k=m.kept.length:=by omega
    subst hkl;rw[Bn]at hmr;have hev2:=px (hO'.below hbr) hG' hok' hov';clear hvr hmm;go_wp2_with (go_at_call 32;refine hev2.mono ?_;rintro e w2 ⟨v2,rfl,hE2,hb2⟩;have hV2:=Gt hE2;obtain⟨sa2,sc2,rfl⟩:=hV2.one)
    have hB2:Below w.heap.size w w2:=hbr.trans (hb2.mono hbr.size);have hmlt:=Go.Gm.aw.lt hmr.map;have hm2:ed w2 w.heap.size m.kept K:=⟨hmr.map.same (hb2.block _ hmlt),hmr.is,hmr.bare⟩;go_loopw [37] (fun i wr=>∃k:Nat,k<=m'.kept.length/\i= .int .i64 k/\dV wr m'.kept (.slice sa2 m'.kept.length sc2)/\ed wr w.heap.size m.kept K/\((m'.kept.take k).all fun y=>m.kept.all fun x=>gU x y)=true/\Below w.heap.size w wr)
     (fun i _=>m'.kept.length - (intOf i).toNat)
    case atStart=>exact⟨0,Ax _,rfl,hV2,hm2,rfl,hB2⟩
    case round=>
     obtain⟨k,hk,rfl,hvr,hmr,hall,hbr⟩:=hrel;by_cases hlt:k<m'.kept.length
     . obtain⟨bb,off,cap,arr,ty,fz,hsl,hbb,hcap,hsz,hcells⟩:=hvr.resolve_left (fun h=>by rw[h.1]at hlt;exact absurd hlt (Br _));simp only[Value.slice.injEq]at hsl;obtain⟨rfl, -,rfl⟩:=hsl;obtain⟨u,hcu,hdu⟩:=hcells k hlt;have hld:=pj hbb hcu;obtain⟨e,he⟩:∃e,m'.kept[k]=e:=⟨_,rfl⟩;have hmlt:w.heap.size<wr.heap.size:=Go.Gm.aw.lt hmr.map;have heo:e.over.length<=100000:=by rw[<-he];exact hov' _ (Au hlt)
       rw[he]at hld hdu;obtain⟨SZ,mm,hSZ,hsz2,hm⟩:=pR;obtain⟨_,_,_,hu1⟩:=hdu.one;obtain⟨W7,hst,hr7,hb7,hs7⟩:=vm wr e u (by rw[hu1];rfl);obtain⟨cs,hcs⟩:∃cs:Array Value,Hid ((cq e u).toArray=cs):=⟨_,rfl⟩;obtain⟨k0,k1,k2,k6,k18,kl⟩:=cJ hr7 hcs hm;have hcz:cs.size=mm:=by rw[<-(show(cq e u).toArray=cs from hcs)];exact(show(19:Nat)=mm from EG hm)
       have hmz:¬mm=0:=by have h:mm=19:=hm;omega
       have hmx:¬16777216<mm:=by have h:mm=19:=hm;omega
       rw[show(cq e u).toArray=cs from hcs,<-(show mm=19 from hm)]at hld;rw[show(cq e u).toArray=cs from hcs]at hst;unfold c7 at hst;have hm7:aw W7 w.heap.size aX iU K:=hmr.map.same (hb7.block _ hmlt);have hlk:=hm7.lookup fJ Tryz.underlying83 (z:=fM kK (.slice none 0 0)) (by kernel_rfl) e.dot true;rw[An rfl,show aX e.dot= .agg #[.int .i64 e.dot.dev, .int .i64 e.dot.inc, .int .i64 e.dot.seq]from rfl]at hlk;clear hcu hsz hcells
       cases hg:az K e.dot with
       |none=>
        obtain⟨W9,hst9,hr9,hb9,hs9⟩:=vm W7 kK (.slice none 0 0) rfl;obtain⟨cs2,hcs2⟩:∃cs:Array Value,Hid ((cq kK (.slice none 0 0)).toArray=cs):=⟨_,rfl⟩;have hcz2:cs2.size=mm:=by rw[<-(show(cq kK (.slice none 0 0)).toArray=cs2 from hcs2)];exact(show(19:Nat)=mm from EG hm)
        rw[hg,Bk,Option.getD_none,A2,show fM kK (.slice none 0 0)= .agg cs2 from Ay Value.agg hcs2]at hlk;rw[show(cq kK (.slice none 0 0)).toArray=cs2 from hcs2]at hst9;unfold c7 at hst9;rw[hs7]at hst9 hr9;have hcA:ic wr W9:=fun q ar t fz' hx=>cA hb9 q ar t fz' (cA hb7 q ar t fz' hx)
        have hB9:Below w.heap.size w W9:=(hbr.trans (hb7.mono hbr.size)).trans (hb9.mono (by have:=hbr.size;omega));have hm9:ed W9.drew w.heap.size m.kept K:=⟨hmr.map.same ((hb9.block _ (by omega)).trans (hb7.block _ hmlt)),hmr.is,hmr.bare⟩;have hal:=hmr.none hg;go_wp2;go_region
        go_wp2;go_roundw
        case rel=>exact⟨k+1,hlt,by go_num,(hvr.cells hcA).cells (cA (Below.refl W9.heap.size W9).drew),hm9,iZ hlt hall (by rw[he];exact hal),hB9.drew⟩
        case measure=>simp[intOf];omega
       |some z=>
        obtain⟨⟨za,zc,hz1⟩,hz2,hal⟩:=hmr.some hg;obtain⟨W9,hst9,hr9,hb9,hs9⟩:=vm W7 z.2 (.slice za 0 zc) rfl;obtain⟨cs2,hcs2⟩:∃cs:Array Value,Hid ((cq z.2 (.slice za 0 zc)).toArray=cs):=⟨_,rfl⟩;have hcz2:cs2.size=mm:=by rw[<-(show(cq z.2 (.slice za 0 zc)).toArray=cs2 from hcs2)];exact(show(19:Nat)=mm from EG hm)
        rw[hg,A0,Bl,Option.isSome_some,show iU z= .agg cs2 from hz1.trans (Ay Value.agg hcs2)]at hlk;rw[show(cq z.2 (.slice za 0 zc)).toArray=cs2 from hcs2]at hst9;unfold c7 at hst9;rw[hs7]at hst9 hr9;have hcA:ic wr W9.drew:=fun q ar t fz' hx=>cA (Below.refl W9.heap.size W9).drew q ar t fz' (cA hb9 q ar t fz' (cA hb7 q ar t fz' hx))
        have hB9:Below w.heap.size w W9.drew:=((hbr.trans (hb7.mono hbr.size)).trans (hb9.mono (by have:=hbr.size;omega))).drew;have hm9:aw W9.drew w.heap.size aX iU K:=hmr.map.same ((hb9.block _ (by omega)).trans (hb7.block _ hmlt));have r1:=dT (cA (Below.refl W9.heap.size W9).drew) (dT (cA hb9) hr7);have r2:=dT (cA (Below.refl W9.heap.size W9).drew) hr9;obtain⟨-, -, -, -, -,l1⟩:=cJ r1 hcs hm;obtain⟨-, -, -, -, -,l2⟩:=cJ r2 hcs2 hm;obtain⟨-, -, -, -, -,l1'⟩:=cJ (dT (cA hb9) hr7) hcs hm;obtain⟨-, -, -, -, -,l2'⟩:=cJ hr9 hcs2 hm;have hevx:fC W9.drew (.agg cs) e:=⟨u,by rw[<-(show(cq e u).toArray=cs from hcs)];rfl,hdu.cells hcA⟩;have hbare:=G3 hevx;have hmlt9:=Go.Gm.aw.lt hm9
        cases hd:decide (z.2=fA e)
        all_goals go_wp2
        all_goals (go_region_held3 (fun w'=>(loadCellsFrom ⟨wr.heap.size,0,none⟩ 0 mm #[]).run Tryz.prog w'= .ok cs w'/\(loadCellsFrom ⟨wr.heap.size+1,0,none⟩ 0 mm #[]).run Tryz.prog w'= .ok cs2 w') (simp[*])
          (first
           |(go_at_call 35;refine hbare.mono ?_;rintro e' w6 ⟨u',rfl,hbv,hb6⟩;obtain⟨-, -, -, -, -,f1⟩:=cJ (dT (cA hb6) r1) hcs hm;obtain⟨-, -, -, -, -,f2⟩:=cJ (dT (cA hb6) r2) hcs2 hm;have hsame:=QW (w:=w6) (u:= .agg cs2) (x:=z.2) ⟨_,(Ay Value.agg hcs2).symm, .inl ⟨hz2,za,zc,rfl⟩⟩ (Ng hbv) (by rw[hz2];exact Ax _) (Ax _);rw[hd]at hsame)
           |(go_at_call 36;refine hsame.mono ?_;rintro e' w8 ⟨rfl,hb8⟩;obtain⟨-, -, -, -, -,g1⟩:=cJ (dT (cA hb8) (dT (cA hb6) r1)) hcs hm;obtain⟨-, -, -, -, -,g2⟩:=cJ (dT (cA hb8) (dT (cA hb6) r2)) hcs2 hm)))
        all_goals have hB8:Below w.heap.size w w8:=(hB9.trans (hb6.mono hB9.size)).trans (hb8.mono (AW hB9.size hb6.size))
        . go_wp2;go_ret;refine⟨?_,hB8⟩;have hne:iv m m'=1:=by
           unfold iv;rw[Ai];intro hh;rw[CL,Aq]at hh;have:=hh _ (Au hlt);rw[he,hal,hd]at this
           cases this
          rw[hne];rfl
        . go_wp2;go_roundw
          case rel=>exact⟨k+1,hlt,by go_num,((hvr.cells hcA).cells (cA hb6)).cells (cA hb8),⟨hm9.same ((hb8.block _ (AK hmlt9 hb6.size)).trans (hb6.block _ hmlt9)),hmr.is,hmr.bare⟩,iZ hlt hall (by rw[he,hal];exact hd),hB8⟩
          case measure=>simp[intOf];omega
     . have hkl:k=m'.kept.length:=by omega
       subst hkl;rw[Bn,<-CL]at hall;go_wp2;go_ret;refine⟨?_,hbr⟩;unfold iv;rw[An hall];rfl
end Go.Proofs
