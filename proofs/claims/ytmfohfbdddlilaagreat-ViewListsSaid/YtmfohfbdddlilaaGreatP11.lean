/- Part 11: an evaluator, proved sound, and its use at this seat; no condition. -/
import Derived.KernelRfl
import Derived.WalkKit
import Derived.LoopTactic
import Derived.Test.YtmfohfbdddlilaaGreatP3
import Derived.Test.YtmfohfbdddlilaaGreatP4
import Derived.Test.YtmfohfbdddlilaaGreatP10
set_option linter.unusedSimpArgs false
set_option linter.unusedVariables false
set_option linter.unusedSectionVars false
set_option linter.deprecated false
set_option maxRecDepth 100000
set_option maxHeartbeats 40000000
namespace Go.Proofs
open Go Go.Am Go.RowKit Go.Sy
section
variable [Inhabited aD]
theorem tR {n:Nat} (h:cH 300 (Int.ofNat n)=true):¬n<=300:=by rw[dY,Ah,Ak]at h;omega
theorem tC {n:Nat} (h:cH 300 (Int.ofNat n)=false):n<=300:=by rw[dY,Ao,Ak]at h;omega
end
end Go.Proofs
namespace Go.Proofs
open Go Go.Am Go.RowKit Go.Sy Go.Gm Go.Maps Go.Sort Go.Shelf
section
theorem Cb {k:ay}:∀{m:List aa},m.Pairwise (fun a b=>bF a.key b.key=true)->(∀y∈m,y.key≠k)->m.takeWhile (fun y=>bF y.key k)=m.filter (fun y=>bF y.key k)/\m.dropWhile (fun y=>bF y.key k)=m.filter (fun y=>bF k y.key)
 |[],_,_=>⟨rfl,rfl⟩
 | y ::m,h,hn=>by
  obtain⟨h1,h2⟩:=Bv.1 h;by_cases hy:bF y.key k=true
  . obtain⟨i1,i2⟩:=Cb h2 (fun z hz=>hn z (Al _ hz));rw[Bk,Db,Bn,Bn,if_pos hy,if_pos hy,if_pos hy,i1,i2,vu _ _ hy];exact⟨rfl,rfl⟩
  . have hk:bF k y.key=true:=by
     rcases qG k y.key with h|h|h
     . exact h
     . exact absurd h.symm (hn y An)
     . exact absurd h hy
    have hall:∀z∈m,bF k z.key=true:=fun z hz=>mw _ _ _ hk (h1 z hz)
    rw[Bk,Db,Bn,Bn,if_neg hy,if_neg hy,if_neg hy,if_pos hk];refine⟨(E0.2 fun z hz h=>?_).symm,Aq _ (Da.2 hall).symm⟩;rw[vu _ _ (hall z hz)]at h;cases h
theorem OI {l:List aa} (h:jU l=true) (x:aa):(eO l x.key).take (gh (eO l x.key) x.key)++x::(eO l x.key).drop (gh (eO l x.key) x.key)=dx l x:=by
 have hp:(eO l x.key).Pairwise (fun a b=>bF a.key b.key=true):=(dU.1 h).sublist Dk;obtain⟨h1,h2⟩:=Cb hp (k:=x.key) (fun y hy=>BA (Au.1 hy).2);have e:=DH (p:=fun y:aa=>bF y.key x.key) (l:=eO l x.key);have ht:(eO l x.key).take (gh (eO l x.key) x.key)=(eO l x.key).takeWhile (fun y=>bF y.key x.key):=by
   conv=>lhs;rw[<-e]
   exact qQ (by rw[e];rfl)
 have hd:(eO l x.key).drop (gh (eO l x.key) x.key)=(eO l x.key).dropWhile (fun y=>bF y.key x.key):=by
   conv=>lhs;rw[<-e]
   exact C4 (by rw[e];rfl)
 rw[ht,hd,h1,h2];unfold eO dx;rw[Eo,Eo];congr 1
 . refine List.filter_congr fun y _=>?_
   by_cases hk:y.key=x.key
   . rw[hk,pA];rfl
   . rw[Dl hk,DP]
 . congr 1
   refine List.filter_congr fun y _=>?_
   by_cases hk:y.key=x.key
   . rw[hk,pA];rfl
   . rw[Dl hk,DP]
theorem F9 {w:World} {p:Nat->Prop} {a:Bool} {x:aa} {v:Value} (h:Rd w p a (.agg x.enc) v):v= .agg (cg x).toArray:=by
 cases h with
 | @agg cs vs h1 h2=>
  congr 1
  apply Er;apply BO
  intro i;have hl:vs.toList.length=11:=by rw[BG];exact h1.symm
  by_cases hi:i<11
  . obtain⟨s,hs⟩:=FR (x:=x) hi;have hv:vs.toList[i]? =some (vs.toList[i]'(by omega)):=Ae _;have hu:(cg x)[i]? =some ((cg x)[i]'hi):=Ae hi;rw[hv,hu];exact Aq some (F8 hs hu (h2 i _ _ hs (by rw[<-Array.getElem?_toList];exact hv)))
  . rw[Ba (by omega),Ba (by show 11<=i;omega)]
theorem Ny {w:World} {base:Nat} {v:Value} {l:List aa} (h:iE w base v l):Up w base (eH l) v:=by
 obtain⟨_,⟨rfl,h0⟩|⟨b,cap,cur,rfl,hbb,hb,hlc,hcm,hcs,htk⟩⟩:=h
 . exact .gX h0
 . refine Mv (off:=0) hbb hb hlc (by omega) fun i x j v hx hv=>?_
   have hj:j<11:=(Ac.1 hv).1;have hi:i<l.length:=(Ac.1 hx).1;have h1:=mC hx hj;rw[hv,<-htk,AU,if_pos (by omega),AW]at h1;rw[Ax];exact h1
section
variable [Inhabited aD]
def GG:aP:={Y:=List aa×aa,pre:=fun y=>y.1.length<=9999/\jU y.1=true,args:=fun y=>[eH y.1, .agg y.2.enc],res:=fun y=>eH (dx y.1 y.2)}
theorem OD (hdr:¬(default:aD).dr):CO Hi GG:=j8 ch.ok (by
 rintro⟨l,x⟩ ⟨hl,hr⟩ w args hold ⟨h1,h2⟩;have hl:l.length<=9999:=hl;have hr:jU l=true:=hr;match args,h1 with
 |[v,u],_=>
 have hu:=F9 (h2 1 _ _ rfl rfl);subst hu;have hv:fJ w v l:=by
  rcases wN (h2 0 _ _ rfl rfl)with h|⟨b,off,cap,rfl,hb,hrow,hcap,hcells⟩
  . exact .inl h
  . exact .inr ⟨b,off,cap,rfl,hcap,hcells,hrow⟩
 refine(PK (x:=x) hl hv).mono ?_;rintro e w' ⟨u,rfl,ho,hb⟩;rw[OI hr x]at ho;exact⟨u,rfl, .inr (Ny ho),hb,fun h=>(hdr h).elim⟩)
def kU (l:List aa):Bool:=decide (l.length<=60)&&l.all oB
def Ct:aP:={Y:=List aa,pre:=fun _=>True,args:=fun y=>[eH y],res:=fun y=> .bool (kU y)}
def LS (y:List aa):aS:={α:=Nat,ok:=fun i=>i<=y.length/\ ∀j (h:j<y.length),j<i->oB y[j]=true,μ:=fun i=>y.length - i,bG:=[],bM:=fun i=>[(0,eH y),(3,i64 i)],cK:=fun _=>[]}
theorem zj {l:List aa} (h:¬(l.length<=60/\ ∀x∈l,oB x=true)):false=kU l:=by
 symm;rw[AY];intro e;unfold kU at e;rw[Ab,Ah,AA]at e;exact h e
theorem Lj:CO rY Ct:=cZ (cfg:=fun y=>bU cQ (dX rY 4 (LS y))) ch (fun _=>rfl) (fun _=>jS) (n:=600) (by
 intro (l:List aa) _
 (conv=>whnf)
 refine bN (fun h=>?_) fun h60=>?_
 . (conv=>whnf)
   refine⟨zj fun h'=>?_,trivial⟩;have h:cH 60 (Int.ofNat l.length)=true:=h;rw[dY,Ah]at h;have h:(60:Int)<(l.length:Int):=h;omega
 have hl:l.length<=60:=by
   have h60:cH 60 (Int.ofNat l.length)=false:=h60;rw[dY,Ao]at h60;have h60:¬(60:Int)<(l.length:Int):=h60;omega
 (conv=>whnf)
 refine⟨⟨(0:Nat),⟨Bf _,fun j h hj=>absurd hj (Bw _)⟩,?_⟩,?_⟩
 . repeat' (first|exact trivial|exact rfl|((conv=>whnf);first|(apply bN<;>intro)|apply And.intro))
 rintro(x:Nat) ⟨hx,hx2⟩;have hx:x<=l.length:=hx
 (conv=>whnf)
 refine bN (fun hlt=>?_) fun hge=>?_
 . have hlt':x<l.length:=eo hlt;have hsh:∀{p:Prop},(oB l[x]=true->p)->¬p->false=kU l:=fun hp hn=>zj fun h'=>hn (hp (h'.2 _ (Bb hlt')))
   have hsp:oB l[x]=true↔l[x].key.name.length<=300/\l[x].key.domain.length<=300/\l[x].key.path.length<=300/\l[x].ab.value.length<=300:=by
     unfold oB;simp only[Ab,Ah,and_assoc]
   (conv=>whnf)
   refine aJ.2 ⟨_,eM hlt',?_⟩
   (conv=>whnf)
   refine bN (fun hs=>?_) fun hs1=>?_
   . (conv=>whnf)
     exact⟨hsh (fun h=>(hsp.1 h).1) (tR hs),trivial⟩
   (conv=>whnf)
   refine aJ.2 ⟨_,eM hlt',?_⟩
   (conv=>whnf)
   refine bN (fun hs=>?_) fun hs2=>?_
   . (conv=>whnf)
     exact⟨hsh (fun h=>(hsp.1 h).2.1) (tR hs),trivial⟩
   (conv=>whnf)
   refine aJ.2 ⟨_,eM hlt',?_⟩
   (conv=>whnf)
   refine bN (fun hs=>?_) fun hs3=>?_
   . (conv=>whnf)
     exact⟨hsh (fun h=>(hsp.1 h).2.2.1) (tR hs),trivial⟩
   (conv=>whnf)
   refine aJ.2 ⟨_,eM hlt',?_⟩
   (conv=>whnf)
   refine bN (fun hs=>?_) fun hs4=>?_
   . (conv=>whnf)
     exact⟨hsh (fun h=>(hsp.1 h).2.2.2) (tR hs),trivial⟩
   (conv=>whnf)
   refine aq.2 ⟨eG x (by omega),?_⟩
   (conv=>whnf)
   refine⟨(x+1:Nat),⟨hlt',fun j h hj=>?_⟩,by show l.length - (x+1)<l.length - x;omega,?_⟩
   . by_cases e:j=x
     . subst e;exact hsp.2 ⟨tC hs1,tC hs2,tC hs3,tC hs4⟩
     . exact hx2 j h (by omega)
   . repeat' (first|exact trivial|exact rfl|((conv=>whnf);first|(apply bN<;>intro)|apply And.intro))
 . have hge':l.length<=x:=kX hge
   (conv=>whnf)
   refine⟨?_,trivial⟩;show true=kU l
   unfold kU;rw[Dl hl,BH,eq_comm,AA];intro y hy;obtain⟨j,hj,rfl⟩:=BP hy;exact hx2 j hj (by omega))
theorem Io {l:List aa} (h:kU l=true):l.length<=60/\xB l:=by
 unfold kU at h;rw[Ab,Ah,AA]at h;refine⟨h.1,fun x hx=>?_⟩;have:=h.2 x hx;unfold oB at this;simp only[Ab,Ah]at this;omega
noncomputable def GY (f:FuncId):Option aP:=bif Nat.beq f Hi then some GG else bif Nat.beq f o5 then some xM else GO f
theorem L5 (hdr:¬(default:aD).dr):∀f C,GO f=some C->CO f C:=cW (JA hdr) Cg
theorem LI (hdr:¬(default:aD).dr) (ha:CO o5 xM):∀f C,GY f=some C->CO f C:=cW (OD hdr) (cW ha (L5 hdr))
theorem NI {l:List aa} {x:aa} (hl:l.length<=60) (hs:xB l):wp (bU GY (eD ())) 2000
  ⟨yg,70,0,[.code (rE 2 (Tryz.f9.body.getD .skip))],⟨[(0,eH l),(3, .bT x.enc 0)],⟨0,[]⟩,[]⟩⟩ sx:=by
 have hb:(fa l).length<=60:=by have:=vL l [];unfold fa;simp at this;omega
 have hpl:(dx (fa l) x).length<=61:=Ay (CS _ x) (by omega);have hds:(bR l).length<=60:=by
  have:=vq l [];unfold bR;simp at this;omega
 have hwl:=Je l x.key;have hdl:(lP l x.key.domain).length<=l.length:=Bi _ _
 (conv=>whnf)
 refine⟨l,?_⟩
 repeat ((conv=>whnf);first|refine⟨rfl,?_⟩|refine⟨trivial,?_⟩)
 refine⟨by show l.length<=1000;omega,?_⟩
 (conv=>whnf)
 refine⟨fun _=>⟨rfl,rfl⟩,fa l,rfl,aq.2 ⟨by simp only[Ab,AQ,AE];omega,?_⟩⟩
 (conv=>whnf)
 refine⟨(fa l,x),?_⟩
 repeat ((conv=>whnf);first|refine⟨rfl,?_⟩|refine⟨trivial,?_⟩)
 refine⟨⟨by show(fa l).length<=9999;omega,H8 l⟩,?_⟩
 (conv=>whnf)
 refine⟨(fa l,x),?_⟩
 repeat ((conv=>whnf);first|refine⟨rfl,?_⟩|refine⟨trivial,?_⟩)
 refine⟨by show(fa l).length<=10000;omega,?_⟩
 (conv=>whnf)
 refine⟨(dx (fa l) x,dx (fa l) x),?_⟩
 repeat ((conv=>whnf);first|refine⟨rfl,?_⟩|refine⟨trivial,?_⟩)
 refine⟨⟨by show(dx (fa l) x).length<=10000;omega,by show(dx (fa l) x).length<=10000;omega⟩,?_⟩
 (conv=>whnf)
 refine au.2 ⟨fun _=>?_,fun h=>absurd (show decide (dx (fa l) x=dx (fa l) x)=false from h) (by simp)⟩
 (conv=>whnf)
 refine⟨(l,x.key),?_⟩
 repeat ((conv=>whnf);first|refine⟨rfl,?_⟩|refine⟨trivial,?_⟩)
 refine⟨by show l.length<=10000;omega,?_⟩
 (conv=>whnf)
 refine⟨(l,x.key),?_⟩
 repeat ((conv=>whnf);first|refine⟨rfl,?_⟩|refine⟨trivial,?_⟩)
 refine⟨by show l.length<=10000;omega,?_⟩
 (conv=>whnf)
 refine⟨(eO l x.key,eO l x.key),?_⟩
 repeat ((conv=>whnf);first|refine⟨rfl,?_⟩|refine⟨trivial,?_⟩)
 refine⟨⟨by show(eO l x.key).length<=10000;omega,by show(eO l x.key).length<=10000;omega⟩,?_⟩
 (conv=>whnf)
 refine au.2 ⟨fun _=>?_,fun h=>absurd (show decide (eO l x.key=eO l x.key)=false from h) (by simp)⟩
 (conv=>whnf)
 refine⟨(l,x.key.domain),?_⟩
 repeat ((conv=>whnf);first|refine⟨rfl,?_⟩|refine⟨trivial,?_⟩)
 refine⟨by show l.length<=10000;omega,?_⟩
 (conv=>whnf)
 refine⟨(l,x.key.domain),?_⟩
 repeat ((conv=>whnf);first|refine⟨rfl,?_⟩|refine⟨trivial,?_⟩)
 refine⟨by show l.length<=10000;omega,?_⟩
 (conv=>whnf)
 refine⟨(lP l x.key.domain,lP l x.key.domain),?_⟩
 repeat ((conv=>whnf);first|refine⟨rfl,?_⟩|refine⟨trivial,?_⟩)
 refine⟨⟨by show(lP l x.key.domain).length<=10000;omega,by show(lP l x.key.domain).length<=10000;omega⟩,?_⟩
 (conv=>whnf)
 refine au.2 ⟨fun _=>?_,fun h=>absurd (show decide (lP l x.key.domain=lP l x.key.domain)=false from h) (by simp)⟩
 (conv=>whnf)
 refine⟨l,?_⟩
 repeat ((conv=>whnf);first|refine⟨rfl,?_⟩|refine⟨trivial,?_⟩)
 refine⟨⟨by show l.length<=10000;omega,hs⟩,?_⟩
 (conv=>whnf)
 refine⟨l,?_⟩
 repeat ((conv=>whnf);first|refine⟨rfl,?_⟩|refine⟨trivial,?_⟩)
 refine⟨by show l.length<=10000;omega,?_⟩
 (conv=>whnf)
 refine⟨(bR l,bR l),?_⟩
 repeat ((conv=>whnf);first|refine⟨rfl,?_⟩|refine⟨trivial,?_⟩)
 refine⟨⟨by show(bR l).length<=10000;omega,by show(bR l).length<=10000;omega⟩,?_⟩
 (conv=>whnf)
 refine au.2 ⟨fun _=>?_,fun h=>absurd (show decide (bR l=bR l)=false from h) (by simp)⟩
 (conv=>whnf)
 refine⟨(fa l,fa l),?_⟩
 repeat ((conv=>whnf);first|refine⟨rfl,?_⟩|refine⟨trivial,?_⟩)
 refine⟨⟨by show(fa l).length<=10000;omega,by show(fa l).length<=10000;omega⟩,?_⟩
 (conv=>whnf)
 refine au.2 ⟨fun _=>?_,fun h=>absurd (show decide (fa l=fa l)=false from h) (by simp)⟩
 (conv=>whnf)
 refine⟨(),?_⟩
 repeat ((conv=>whnf);first|refine⟨rfl,?_⟩|refine⟨trivial,?_⟩)
 repeat' (first|exact trivial|exact rfl|((conv=>whnf);first|(apply bN<;>intro)|apply And.intro))
end
end
theorem JP [Inhabited aD] {tab:aR} {w:World} {tmps:Array Value} {ts:Fr} {t b:Nat} {x:aa} {ty:TypeId} {fz:Nat×Nat} (h1:tmps[t]? =some (.pointer (some ⟨b,0,none⟩))) (hb:w.heap[b]? =some (.cells (cg x).toArray ty fz))
  (h:dS tab w tmps ts):dS tab w tmps ((t, .bT x.enc 0)::ts):=by
 have hlt:=(Aa.1 hb).1;refine h.put (av:= .ptr b 0) h1 (fun E hE=>by simp[ae,hE b hlt]) ?_;have hg:(bK tab w).get b=some (.cells ((cg x).map (dq w.heap.size)) ty ((tab.siz.get ty).getD 1) false .ro):=by
  rw[qW];unfold iS;rw[hb]
 refine .bT b 0 _ ty _ false .ro (fun j=>((cg x).map (dq w.heap.size))[j]?.getD .aQ) hg (Af 11) (fun j v hj=>?_) (fun j v hj=>?_)
 all_goals
  have hj3:j<11:=(Ac.1 hj).1;unfold aa.enc at hj;match j,hj3 with
  |0,_|1,_|2,_|3,_=>cases hj;first|rfl|exact .str _
  |4,_|5,_|6,_|7,_=>cases hj;first|rfl|exact .bool _
  |8,_|9,_|10,_=>cases hj;first|rfl|exact .int _ _
theorem CV {w:World} {b:Nat} {x:aa} (h:w.heap[b]? =some (.cells (cg x).toArray 48 (0,0))):fJ w (.slice (some ⟨b,0,none⟩) 1 1) [x]:=
 .inr ⟨b,0,1,rfl,Af 1,⟨_,_,_,h,Af 11⟩,fun i y j v hy hv=>by
  match i,hy with
  |0,hy=>cases hy;rw[Ed];exact kh h j v hv⟩
theorem pf {l:List aa} {v:Value} {w:World} (h:fJ w v l):Calls Tryz.prog 47 #[v] w fun e w'=>e= .returned (.bool (kU l))/\Below w.heap.size w w':=
 rB (C:=fun _=>Ct) (fun I=> @Lj I) (hfn:=rfl) (hb:=rfl) (args:=[v]) (fun I=>⟨l,trivial,PL.cons (CY h) PL.nil,rfl⟩)
theorem Po {l:List aa} {x:aa} {v:Value} {w:World} (hv:fJ w v l) (ha:∀w,Calls Tryz.prog 13 #[] w fun e w'=>e= .returned (.bool true)/\Below w.heap.size w w'):
  Calls Tryz.prog 9 #[v, .agg (cg x).toArray] w fun e w'=>e= .returned (.bool true)/\Below w.heap.size w w':=by
 obtain⟨W,hW⟩:∃W,w.alloc (.cells (cg x).toArray 48)=W:=⟨_,rfl⟩;have hbW:Below w.heap.size w W:=by rw[<-hW];exact(Below.refl _ _).alloc (Af _) _
 have hWn:=rm hW;have hvW:=hv.below hbW;have hlight:=pf hvW;unfold cg at hW;refine yN Tryz.func9 rfl ?_;simp only[Tryz.ntmps9,A4,As,AE,Nat.reduceAdd,Nat.reduceSub,Du,Dt,DB,Dx,BJ,Bg];refine eE.next Tryz.func9 ?_;unfold cg;go_wp2;show eE _ _ _ _ _ _
 refine eE.next Tryz.func9 ?_
 cases hL:kU l with
 |false=>
  rw[hL]at hlight;go_wp2_with (first|(go_at_call 47;refine hlight.mono ?_;rintro e w1 ⟨rfl,hb1⟩;have ha1:=ha w1)|(go_at_call 13;refine ha1.mono ?_;rintro e w2 ⟨rfl,hb2⟩))
  refine y7 (results_tmp rfl _ _ _) rfl ?_;exact⟨rfl,(hbW.trans (hb1.mono hbW.size)).trans (hb2.mono (Ay hbW.size hb1.size))⟩
 | true=>
  rw[hL]at hlight
  cases hX:kU [x]with
  |false=>
   go_wp2_with (first|(go_at_call 47;refine hlight.mono ?_;rintro e w1 ⟨rfl,hb1⟩;have hW1:=(hb1.block _ (Aa.1 hWn).1).trans hWn;obtain⟨d0,d1,d2,d3,d4,d5,d6,d7,d8,d9,d10⟩:=iM (kh hW1);simp only[Ax]at d1 d2 d3 d4 d5 d6 d7 d8 d9 d10;obtain⟨Y,hY⟩:∃Y,w1.alloc (.cells (cg x).toArray 48)=Y:=⟨_,rfl⟩;have hYn:=rm hY;have hbY:Below w1.heap.size w1 Y:=(by rw[<-hY];exact(Below.refl _ _).alloc (Af _) _);have hl2:=pf (CV hYn);rw[hX]at hl2;unfold cg at hY;clear hlight)|(go_at_call 47;refine hl2.mono ?_;rintro e w3 ⟨rfl,hb3⟩;have ha1:=ha w3)|(go_at_call 13;refine ha1.mono ?_;rintro e w2 ⟨rfl,hb2⟩))
   refine y7 (results_tmp rfl _ _ _) rfl ?_;have h1:=Ay hbW.size hb1.size;have h2:=Ay h1 hbY.size;exact⟨rfl,(((hbW.trans (hb1.mono hbW.size)).trans (hbY.mono h1)).trans (hb3.mono h2)).trans (hb2.mono (Ay h2 hb3.size))⟩
  |true=>
   go_wp2_with (first|(go_at_call 47;refine hlight.mono ?_;rintro e w1 ⟨rfl,hb1⟩;have hW1:=(hb1.block _ (Aa.1 hWn).1).trans hWn;obtain⟨d0,d1,d2,d3,d4,d5,d6,d7,d8,d9,d10⟩:=iM (kh hW1);simp only[Ax]at d1 d2 d3 d4 d5 d6 d7 d8 d9 d10;obtain⟨Y,hY⟩:∃Y,w1.alloc (.cells (cg x).toArray 48)=Y:=⟨_,rfl⟩;have hYn:=rm hY;have hbY:Below w1.heap.size w1 Y:=(by rw[<-hY];exact(Below.refl _ _).alloc (Af _) _);have hl2:=pf (CV hYn);rw[hX]at hl2;unfold cg at hY;clear hlight)|(go_at_call 47;refine hl2.mono ?_;rintro e w3 ⟨rfl,hb3⟩))
   show eE _ _ _ _ _ _
   have h1:=Ay hbW.size hb1.size;have h2:=Ay h1 hbY.size;have hB:Below w.heap.size w w3:=((hbW.trans (hb1.mono hbW.size)).trans (hbY.mono h1)).trans (hb3.mono h2);have hx3:=(hb3.block _ (AJ (Aa.1 hW1).1 hbY.size)).trans ((hbY.block _ (Aa.1 hW1).1).trans hW1);letI:Inhabited aD:=⟨⟨False,#[]⟩⟩
   obtain⟨k1,k2⟩:=Io hL;have hdr:¬(default:aD).dr:=fun h=>h
   refine eE.mono (Hq (n:=2000) (c:=rE 2 (Tryz.f9.body.getD .skip)) ch rfl (LI hdr (OG hdr ha)) rfl (NI (x:=x) k1 k2) ?_ (cA.nT rfl _)) ?_
   . exact .cons rfl (CY (hv.below hB)) (JP rfl hx3 .nil)
   . rintro e w' ⟨rfl,hb'⟩;exact⟨rfl,hB.trans (hb'.mono hB.size)⟩
end Go.Proofs
