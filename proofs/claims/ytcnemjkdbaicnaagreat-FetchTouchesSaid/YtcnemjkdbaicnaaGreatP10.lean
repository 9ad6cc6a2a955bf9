/- Part 10: an evaluator, proved sound, and its use at this seat; no condition. -/
import Derived.WalkKit
import Derived.LoopTactic
import Derived.Deep.RegionHeld3
import Derived.Test.YtcnemjkdbaicnaaGreatP3
import Derived.Test.YtcnemjkdbaicnaaGreatP6
import Derived.Test.YtcnemjkdbaicnaaGreatP8
import Derived.Test.YtcnemjkdbaicnaaGreatP9
set_option linter.unusedSimpArgs false
set_option linter.unusedVariables false
set_option linter.unusedSectionVars false
set_option linter.deprecated false
set_option maxRecDepth 100000
set_option maxHeartbeats 40000000
namespace Go.Proofs
open Go Go.Am Go.RowKit Go.Sy
theorem um {P:Program} {f:FuncId} {fn:Func} {l:List Item} {R:Ending->World->Prop} {a:Act} {w:World} {v:Value} (hr:(results fn a.tmps).run P w= .ok v w) (hd:a.defers=[]) (hR:R (.returned v) w):Fi P f fn l R .ret a w:=⟨hd,v,hr,hR⟩
theorem dW.mono {P:Program} {f:FuncId} {l:List Item} {a:Act} {w:World} {R R':Ending->World->Prop} (h:dW P f l a w R) (hr:∀e w',R e w'->R' e w'):dW P f l a w R':=fun cs=>by
 obtain⟨e,w',fr,h1,h2⟩:=h cs;grind
end Go.Proofs
namespace Go.Proofs
open Go Go.Am Go.RowKit Go.Sy Go.Gm Go.Maps Go.Sort Go.Shelf
section
section
variable [Inhabited aF]
theorem TI (m:aN):(jx m).length<=m.kept.length:=by
 have h1:=ET m (gD m) [];have h2:(gD m).length<=m.kept.length:=A2 _ _;grind [jx,jR]
theorem KV (m:aN):(fG m).length<=m.kept.length:=by grind [fG,TI]
end
end
theorem Wg [Inhabited aF] {l:List ae} (h:(bO (Int.ofNat l.length) 30&&l.all iV)=true):l.length<=30/\nV l:=by
 rw[Ac,ed,Aa,AB]at h;have h1:(l.length:Int)<=30:=h.1;exact⟨by omega,by omega,h.2⟩
theorem S5 [Inhabited aF] {l:List ae} {i:Nat} (h:i<l.length):foldM (l.take (i+1))=(dE (foldM (l.take i)) l[i]).1:=mF (fun m e=>(dE m e).1) mM h
theorem X6 [Inhabited aF] {m:aN} {e x:ae} (h:x∈(dE m e).1.kept):x∈m.kept\/x=e:=by
 grind [dE,eZ]
theorem xE [Inhabited aF] (l:List ae) {x:ae} (h:x∈(foldM l).kept):x∈l:=by
 have key:∀(l:List ae) (m:aN),x∈(l.foldl (fun m e=>(dE m e).1) m).kept->x∈m.kept\/x∈l:=by
   intro l;induction l with
   |nil=>grind
   |cons e l ih=>
    grind [X6]
 rcases key l mM h with h|h
 . cases h
 omega
theorem zO {w:World} {n b bk ba bd bs bv:Nat} {G:bg} {l:List ae} (h:cK w n b bk ba bd bs bv G) (g:bS G (foldM l)) (hl:nV l): @cJ (kW w) b (foldM l):=by
 letI:Inhabited aF:=kW w
 have hb:=qE hl.2 l.length (Ad _);rw[A8]at hb;exact Ch h g (hb.ok (by have:=hl.1;omega)) fun e he=>by
  have:=(sC (hl.2 e (xE l he))).2;omega
section
theorem PU {w:World} {n b bk ba bd bs bv:Nat} {G:bg} (h:cK w n b bk ba bd bs bv G) (hl:G.kept.length<=100000) (k:Nat) (hk:k<=1000000):Calls Tryz.prog 51 #[.pointer (some ⟨b,0,none⟩), .int .i64 k] w fun e w'=>e= .returned (.bool (decide ((k:Int)<=2048 - (G.kept.length:Int))))/\w'=w:=by
 obtain⟨es,clk,hb,hsz⟩:=h.iC.len;have c0:=h.c0;have hlen:(Builtin.len_ #[102] 3 #[.map (some bk)]).run Tryz.prog w= .ok (.int .i64 G.kept.length) w:=by
  rw[run_len_map w 102 3 bk es clk (by simp[Program.mapKeyOf,Program.mapElemOf,Tryz.underlying102]) hb,hsz];rfl
 have hwr:wrap64 (2048 - (G.kept.length:Int))=2048 - (G.kept.length:Int):=by
  grind [IntWalk.wrap64_in]
 clear h hb;go_enter Tryz.func51,Tryz.ntmps51
 go_wp2;go_ret;simp_all
variable [Inhabited aF]
def MX:aK:={Y:=Nat×aN×Nat,pre:=fun y=>cJ y.1 y.2.1/\y.2.2<=1000000,args:=fun y=>[.wp ⟨y.1,0,none⟩,i64 y.2.2],res:=fun y=> .bool (decide (y.2.1.kept.length+y.2.2<=2048))}
theorem Y9 (hdr:¬(default:aF).dr):CO vX MX:=jS bu.ok (by
 rintro⟨b,m,k⟩ ⟨hpre,hk⟩ w args hold ⟨h1,h2⟩;match args,h1 with
 |[v,u],_=>
 have e1:=Gj (h2 0 _ _ rfl rfl);have e2:=qzN (h2 1 _ _ rfl rfl);subst e1 e2;obtain⟨n,bk,ba,bd,bs,bv,G,hO,hG⟩:=hpre.at_ w hold;have hkl:=hpre.ok.kept;refine(PU hO (by rw[hG.len];omega) k hk).mono ?_;rintro e w' ⟨rfl,rfl⟩;refine⟨_,rfl, .inr ?_,Below.refl _ _,fun h=>(hdr h).elim⟩;rw[hG.len,show decide ((k:Int)<=2048 - (m.kept.length:Int))=decide (m.kept.length+k<=2048)from by grind];exact .bool _)
end
section
section
variable [Inhabited aF]
end
theorem cell_of {w:World} {b o:Nat} {arr:Array Value} {ty:TypeId} {fz:Nat×Nat} (h:w.heap[b]? =some (.cells arr ty fz)):w.cell? ⟨b,o,none⟩=arr[o]? :=by grind [World.cell?]
end
def chunk (n:Nat) (s:List aq):List (List aq):=match n with
 |0=>[]
 |n+1=>if s=[]then[]else s.take 64::chunk n (s.drop 64)
def Yz (v:Value):List Value:=[.int .i64 2, .string ⟨#[]⟩, .string ⟨#[]⟩, .string ⟨#[]⟩, .string ⟨#[]⟩, .bool false, .bool false, .bool false, .bool false, .int .i64 0, .int .i64 0, .int .i64 0,v]
section
structure aY where
 kind:Int
 item:ab
 over:List aq
def aY.enc (x:aY):List SV:=[.int .i64 x.kind, .str x.item.key.name, .str x.item.key.domain, .str x.item.key.path, .str x.item.aa.value, .bool x.item.aa.aH, .bool x.item.aa.aR, .bool x.item.aa.aI, .bool x.item.aa.persistent,
 .int .i64 x.item.aa.aW, .int .i64 x.item.aa.aj, .int .i64 x.item.aa.access,cL x.over]
def lx (l:List aY):SV:= .bh aY l aY.enc
def rmD (c:List aq):aY:=⟨2,nJ,c⟩
def WT (l:List aq):List aY:=(chunk (dy cg l).length (dy cg l)).map rmD
section
variable [Inhabited aF]
end
end
section
def tJ (m:aN) (l:List ab):List aq:=l.flatMap fun x=>kX m x.key
section
variable [Inhabited aF]
end
end
section
variable [Inhabited aF]
structure okC (c:List aq):Prop where
 ne:c≠[]
 le:c.length<=64
 dot:∀d∈c,fg d=true
 own:∀d∈c,¬(d.dev=63/\d.inc=1048576)
 up:c.Pairwise fun x y=>cg x y=true
end
section
abbrev GF (c:ar) (m:aN) (now:Int):List ab×Int:=NW (c,fG m,now)
def qzL (c:ar) (m:aN) (now:Int):List aY:=WT (tJ m (GF c m now).1)
section
variable [Inhabited aF]
theorem zu (hdr:¬(default:aF).dr):∀g C,yL g=some C->CO g C:=bM (T9 hdr) (bM (qzk hdr) Lj)
structure purgeOk (c:ar) (m:aN) (now:Int):Prop where
 rules:pR c
 mA:(fG m).length<=10000
 short:yl (fG m)
 cL:(tJ m (GF c m now).1).length<=10000
 one:m.kept.length<=2000
 room:m.kept.length+(qzL c m now).length<=2048
end
end
end Go.Proofs
namespace Go.Proofs
open Go Go.Am Go.RowKit Go.Sy
section
def fP (c:ar) (m:aN) (now:Int):List ab:=(iz (c,fG m,now)).1
def fZ (c:ar) (nil:Bool) (r:bG) (now:Int):Int:=if nil then 17 else if iE c≠0 then iE c else if iQ r=false then 1 else if now<0\/1099511627776<now then 4 else 0
def cB (c:ar) (nil:Bool) (m:aN) (r:bG) (now:Int):List ab×Int:=if fZ c nil r now=0 then(gE (fP c m now) r now,0)else([],fZ c nil r now)
def tZ (x:ab):Prop:=x.key.name.length<=2000/\x.key.domain.length<=100000/\x.key.path.length<=100000/\x.aa.value.length<=2000
structure jt (c:ar) (m:aN):Prop where
 rules:pR c
 len:(fG m).length<=30
 names:∀x∈fG m,tZ x
 pg:ir (fG m)=true
theorem eC {c:ar} {m:aN} {now:Int}:(fP c m now).Sublist (fG m):=by
 grind [fP,iz,Wf]
theorem jt.pick {c:ar} {m:aN} (h:jt c m) {r:bG} (hr:lB r) (now:Int):ub (fP c m now) r:=by
 have hs:=eC (c:=c) (m:=m) (now:=now);refine⟨by have:=hs.length_le;have:=h.len;omega,(uC h.pg).sub hs,fun x hx=>?_,hr⟩;have:=h.names x (hs.subset hx);exact⟨this.2.1,this.2.2.1⟩
theorem Cg (l:List ab) (r:bG) (now:Int):(gE l r now).Perm (oh l r now):=by
 have:=zY (oh l r now) [];rwa [BQ]at this
theorem xn {l:List ab} {r:bG} {now:Int} {x:ab} (h:x∈gE l r now):x∈l/\lE x r now=true:=As.1 ((Cg l r now).mem_iff.1 h)
theorem Lw (l:List ab) (r:bG) (now:Int):(gE l r now).length<=l.length:=by
 rw[(Cg l r now).length_eq];exact A2 _ _
theorem jt.items {c:ar} {m:aN} (h:jt c m) (nil:Bool) (r:bG) (now:Int):(cB c nil m r now).1.length<=30/\ ∀x∈(cB c nil m r now).1,x∈fG m:=by
 have hs:=eC (c:=c) (m:=m) (now:=now);unfold cB;split
 . refine⟨?_,fun x hx=>hs.subset (xn hx).1⟩;have h1:=Lw (fP c m now) r now;have h2:=hs.length_le;have h3:=h.len;grind
 grind
theorem jt.NS {c:ar} {m:aN} (h:jt c m) (nil:Bool) (r:bG) (now:Int):NP (cB c nil m r now).1:=by
 obtain⟨h1,h2⟩:=h.items nil r now;refine⟨by omega,fun x hx=>?_⟩;have:=h.names x (h2 x hx);exact⟨this.1,this.2.2.2⟩
section
variable [Inhabited aF]
noncomputable def yR (f:FuncId):Option aK:=bif Nat.beq f rN then some Fx else bif Nat.beq f pE then some E4 else bif Nat.beq f pA then some xT else bif Nat.beq f Hc then some tL else bif Nat.beq f sb then some Nf else bif Nat.beq f Gn then some M4 else bU f
theorem EO (hdr:¬(default:aF).dr):∀f C,yR f=some C->CO f C:=bM (Zb (VD (zu hdr))) (bM (Ls hdr) (bM Lr (bM (Po (Pg hdr)) (bM (Z2 hdr) (bM (Zj hdr) gn)))))
def MY:aK:={Y:=ar×Mp×Int,pre:=fun y=>y.2.1.at/\jt y.1 y.2.1.m,args:=fun y=>[.agg y.1.enc,y.2.1.arg,i64 y.2.2],res:=fun y=>items (fP y.1 y.2.1.m y.2.2)}
theorem Za (hdr:¬(default:aF).dr):CO HY MY:=bR (cfg:=fun(_:ar×Mp×Int)=>cm yR (fun _ _=>none)) bu (fun _=>rfl) (fun _=>EO hdr) (n:=500) (by
 rintro⟨c,m,now⟩ ⟨h1,h2⟩;have h1:m.at:=h1;have h2:jt c m.m:=h2
 cases m with
 |none=>
  refine⟨(none:Mp),?_⟩
  repeat first|refine⟨rfl,?_⟩|refine⟨trivial,?_⟩
  refine⟨(c,fG ⟨[],[],[]⟩,now),?_⟩
  repeat first|refine⟨rfl,?_⟩|refine⟨trivial,?_⟩
  refine⟨⟨h2.rules,by show(fG ⟨[],[],[]⟩).length<=10000;have:(fG ⟨[],[],[]⟩).length<=30:=h2.len;omega,fun x hx=>by have:=(h2.names x hx).2.1;omega⟩,?_⟩
  repeat' first|exact trivial|exact rfl|refine aG (fun _=>?_) fun _=>?_|apply And.intro
 |some y=>
  refine⟨(some y:Mp),?_⟩
  repeat first|refine⟨rfl,?_⟩|refine⟨trivial,?_⟩
  refine⟨h1,?_⟩;refine⟨(c,fG y.2,now),?_⟩
  repeat first|refine⟨rfl,?_⟩|refine⟨trivial,?_⟩
  refine⟨⟨h2.rules,by show(fG y.2).length<=10000;have:(fG y.2).length<=30:=h2.len;omega,fun x hx=>by have:=(h2.names x hx).2.1;omega⟩,?_⟩
  repeat' first|exact trivial|exact rfl|refine aG (fun _=>?_) fun _=>?_|apply And.intro)
def tK:aK:={Y:=ar×Mp×bG×Int,pre:=fun y=>pR y.1/\lB y.2.2.1,args:=fun y=>[.agg y.1.enc,y.2.1.arg, .agg y.2.2.1.enc,i64 y.2.2.2],res:=fun y=>i64 (fZ y.1 y.2.1.isNone y.2.2.1 y.2.2.2)}
theorem Pl (hdr:¬(default:aF).dr):CO Ha tK:=bR (cfg:=fun(_:ar×Mp×bG×Int)=>cm yR (fun _ _=>none)) bu (fun _=>rfl) (fun _=>EO hdr) (n:=500) (by
 rintro⟨c,m,r,now⟩ ⟨h1,h2⟩;have h1:pR c:=h1;have h2:lB r:=h2
 cases m with
 |none=>repeat' first|exact trivial|exact rfl|refine aG (fun _=>?_) fun _=>?_|apply And.intro
 |some y=>
  have fin:∀v:Int,v=fZ c false r now->ax v (fZ c (Option.isNone (some y)) r now):=fun v h=>h
  refine⟨c,?_⟩
  repeat first|refine⟨rfl,?_⟩|refine⟨trivial,?_⟩
  refine⟨h1,?_⟩;refine aG (fun h=>?_) fun h=>?_
  . have h:(!(iE c==0))=true:=h;refine⟨fin _ ?_,trivial⟩;grind [fZ]
  have h:(!(iE c==0))=false:=h;have h:iE c=0:=by grind
  have e1:fZ c false r now=if iQ r=false then 1 else if now<0\/1099511627776<now then 4 else 0:=by
    grind [fZ]
  refine⟨r,?_⟩
  repeat first|refine⟨rfl,?_⟩|refine⟨trivial,?_⟩
  refine⟨h2,?_⟩;refine aG (fun u=>?_) fun u=>?_
  . have u:(!iQ r)=true:=u;refine⟨fin _ ?_,trivial⟩;rw[e1,Al (by grind)]
  have u:(!iQ r)=false:=u;rw[An (by grind)]at e1;refine aG (fun a=>?_) fun a=>?_
  . have a:bK now 0=true:=a;rw[ch,Aa]at a;refine⟨fin _ ?_,trivial⟩;rw[e1,Al (.inl a)]
  have a:bK now 0=false:=a;rw[ch,Ai]at a;refine aG (fun b=>?_) fun b=>?_
  . have b:bK 1099511627776 now=true:=b;rw[ch,Aa]at b;refine⟨fin _ ?_,trivial⟩;rw[e1,Al (.inr b)]
  . have b:bK 1099511627776 now=false:=b;rw[ch,Ai]at b;refine⟨fin _ ?_,trivial⟩;rw[e1,An (by omega)])
noncomputable def F0 (f:FuncId):Option aK:=bif Nat.beq f HY then some MY else bif Nat.beq f Ha then some tK else yR f
theorem Ky (hdr:¬(default:aF).dr):∀f C,F0 f=some C->CO f C:=bM (Za hdr) (bM (Pl hdr) (EO hdr))
def oC (y:ar×Mp×bG×Int):Prop:=y.2.1.at/\jt y.1 y.2.1.m/\lB y.2.2.1
def CZ:aK:={Y:=ar×Mp×bG×Int,pre:=oC,args:=fun y=>[.agg y.1.enc,y.2.1.arg, .agg y.2.2.1.enc,i64 y.2.2.2],res:=fun y=> .bA [items (cB y.1 y.2.1.isNone y.2.1.m y.2.2.1 y.2.2.2).1,i64 (cB y.1 y.2.1.isNone y.2.1.m y.2.2.1 y.2.2.2).2]}
theorem Ke (hdr:¬(default:aF).dr):CO rP CZ:=bR (cfg:=fun(_:ar×Mp×bG×Int)=>cm F0 (fun _ _=>none)) bu (fun _=>rfl) (fun _=>Ky hdr) (n:=500) (by
 rintro⟨c,m,r,now⟩ ⟨h1,h2,h3⟩;have h1:m.at:=h1;have h2:jt c m.m:=h2;have h3:lB r:=h3
 cases m with
 |none=>
  have e:cB c (Option.isNone (none:Mp)) (Mp.m none) r now=([],17):=rfl;refine⟨(c,(none:Mp),r,now),?_⟩
  repeat first|refine⟨rfl,?_⟩|refine⟨trivial,?_⟩
  refine⟨⟨h2.rules,h3⟩,?_⟩
  (conv=>whnf)
  repeat' first|exact trivial|exact rfl|refine aG (fun _=>?_) fun _=>?_|apply And.intro
 |some y=>
  refine⟨(c,(some y:Mp),r,now),?_⟩
  repeat first|refine⟨rfl,?_⟩|refine⟨trivial,?_⟩
  refine⟨⟨h2.rules,h3⟩,?_⟩;refine aG (fun h=>?_) fun h=>?_
  . have h:(!(fZ c false r now==0))=true:=h;have e:cB c false y.2 r now=([],fZ c false r now):=by grind [cB]
    refine⟨?_,?_⟩
    . grind [cB]
    refine⟨?_,trivial⟩;grind [cB]
  . have h:(!(fZ c false r now==0))=false:=h;have e:cB c false y.2 r now=(gE (fP c y.2 now) r now,0):=by grind [cB]
    refine⟨(c,(some y:Mp),now),?_⟩
    repeat first|refine⟨rfl,?_⟩|refine⟨trivial,?_⟩
    refine⟨⟨h1,h2⟩,?_⟩;refine⟨(fP c y.2 now,r,now),?_⟩
    repeat first|refine⟨rfl,?_⟩|refine⟨trivial,?_⟩
    refine⟨h2.pick h3 now,?_⟩;refine⟨?_,?_⟩
    . show items (gE (fP c y.2 now) r now)=items (cB c false y.2 r now).1
      rw[e]
    refine⟨?_,trivial⟩;grind [cB])
def J5:aK:={Y:=ar×Mp×bG×Int,pre:=oC,args:=fun y=>[.agg y.1.enc,y.2.1.arg, .agg y.2.2.1.enc,i64 y.2.2.2],res:=fun y=> .bA [.str (jo (cB y.1 y.2.1.isNone y.2.1.m y.2.2.1 y.2.2.2).1),i64 (cB y.1 y.2.1.isNone y.2.1.m y.2.2.1 y.2.2.2).2]}
noncomputable def Nt (f:FuncId):Option aK:=bif Nat.beq f rP then some CZ else F0 f
theorem Wo (hdr:¬(default:aF).dr):∀f C,Nt f=some C->CO f C:=bM (Ke hdr) (Ky hdr)
theorem Jr (hdr:¬(default:aF).dr):CO Hp J5:=bR (cfg:=fun(_:ar×Mp×bG×Int)=>cm Nt (fun _ _=>none)) bu (fun _=>rfl) (fun _=>Wo hdr) (n:=500) (by
 rintro⟨c,m,r,now⟩ hp;have h2:jt c m.m:=hp.2.1
 cases m with
 |none=>
  refine⟨(c,(none:Mp),r,now),?_⟩
  repeat first|refine⟨rfl,?_⟩|refine⟨trivial,?_⟩
  refine⟨hp,?_⟩;refine⟨(cB c true (Mp.m none) r now).1,?_⟩
  repeat first|refine⟨rfl,?_⟩|refine⟨trivial,?_⟩
  refine⟨h2.NS true r now,?_⟩
  repeat' first|exact trivial|exact rfl|refine aG (fun _=>?_) fun _=>?_|apply And.intro
 |some y=>
  refine⟨(c,(some y:Mp),r,now),?_⟩
  repeat first|refine⟨rfl,?_⟩|refine⟨trivial,?_⟩
  refine⟨hp,?_⟩;refine⟨(cB c false y.2 r now).1,?_⟩
  repeat first|refine⟨rfl,?_⟩|refine⟨trivial,?_⟩
  refine⟨h2.NS false r now,?_⟩
  repeat' first|exact trivial|exact rfl|refine aG (fun _=>?_) fun _=>?_|apply And.intro)
end
end
end Go.Proofs
namespace Go.Proofs
open Go Go.Am Go.RowKit Go.Sy Go.Gm Go.Maps Go.Sort Go.Shelf
section
section
variable [Inhabited aF]
end
end
section
theorem uq:∀(k:Nat) (s:List aq),s.length<=k->(chunk k s).length=(s.length+63) / 64
 |0,s,h=>by
  have:s.length=0:=by omega
  rw[this];rfl
 |k+1,s,h=>by
  unfold chunk;split
  . rename_i e;rw[e];rfl
  . rename_i e;have:=A7.2 e;rw[Bc,uq k (s.drop 64) (by rw[BM];omega),BM];omega
section
variable [Inhabited aF]
end
end
section
variable [Inhabited aF]
theorem wC {G:bg} {m:aN} (g:bS G m):ir (fG m)=true:=by
 rw[dU];unfold fG;rw[Dm];exact Ic g
end
section
def jd (w:World) (u:Value) (m:aN):Prop:=∃vc vk vd,u= .agg #[vc,vk,vd]/\cH w m.ctx vc/\fk w m.kept vk/\cH w m.dead vd
theorem jd.cells {w w':World} (hc:jk w w') {u:Value} {m:aN} (h:jd w u m):jd w' u m:=by
 obtain⟨vc,vk,vd,h1,h2,h3,h4⟩:=h;exact⟨vc,vk,vd,h1,h2.cells hc,h3.cells hc,h4.cells hc⟩
section
variable [Inhabited aF]
theorem qzb {w:World} {p:Nat->Prop} {g:Bool} {m:aN} {u:Value} (h:Rd w p g (.agg m.enc) u):jd w u m:=by
 cases h with
 | @agg cs vs h1 h2=>
  obtain⟨l⟩:=vs;match l,h1 with
  |[x,y,z],_=>exact⟨x,y,z,rfl,xH (h2 0 _ _ rfl rfl),M7 (h2 1 _ _ rfl rfl),xH (h2 2 _ _ rfl rfl)⟩
end
end
structure iv (b0:Nat) (w w':World):Prop where
 same:∀i,i≠b0->w'.heap[i]? =w.heap[i]?
 bare:∀arr e fz,w.heap[b0]? =some (.cells arr e fz)->∀(i:Nat) (k:IntKind) (z:Int),arr[i]? ≠some (Value.int k z)
theorem cH.box {w w':World} {b0:Nat} (hb:iv b0 w w') {l:List aq} {v:Value} (h:cH w l v):cH w' l v:=by
 rcases h with h|⟨b,off,cap,arr,e,fz,rfl,h2,h3,h4,h5⟩
 . exact .inl h
 . by_cases h0:l=[]
   . subst h0;exact .inl ⟨rfl,_,_,rfl⟩
   . refine .inr ⟨b,off,cap,arr,e,fz,rfl,?_,h3,h4,h5⟩;rw[hb.same b fun eb=>?_]
     . exact h2
     . subst eb;exact hb.bare arr e fz h2 _ _ _ (h5 0 (A7.2 h0)).1
theorem fk.box {w w':World} {b0:Nat} (hb:iv b0 w w') {l:List ae} {v:Value} (h:fk w l v):fk w' l v:=by
 rcases h with h|⟨b,off,cap,arr,e,fz,rfl,h2,h3,h4,h5⟩
 . exact .inl h
 . by_cases h0:l=[]
   . subst h0;exact .inl ⟨rfl,_,_,rfl⟩
   . refine .inr ⟨b,off,cap,arr,e,fz,rfl,?_,h3,h4,fun i hi=>by obtain⟨u,k1,k2⟩:=h5 i hi;exact⟨u,k1,k2.box hb⟩⟩;rw[hb.same b fun eb=>?_]
     . exact h2
     . subst eb;obtain⟨u,k1,_⟩:=h5 0 (A7.2 h0);exact hb.bare arr e fz h2 _ _ _ (k1 0 (by omega))
theorem jd.box {w w':World} {b0:Nat} (hb:iv b0 w w') {u:Value} {m:aN} (h:jd w u m):jd w' u m:=by
 obtain⟨vc,vk,vd,h1,h2,h3,h4⟩:=h;exact⟨vc,vk,vd,h1,h2.box hb,h3.box hb,h4.box hb⟩
theorem cK.box {w w':World} {n b bk ba bd bs bv b0:Nat} {G:bg} (h:cK w n b bk ba bd bs bv G) (hb:iv b0 w w') (h0:b0<n):cK w' n b bk ba bd bs bv G:=by
 have hl:=h.low;simp only[Ap,Aw]at hl;have ne:∀j,n<=j->w'.heap[j]? =w.heap[j]? :=fun j hj=>hb.same j (by omega)
 exact⟨ep h.c0 (ne _ (hl _ (.inl rfl))),ep h.c1 (ne _ (hl _ (.inl rfl))),ep h.c2 (ne _ (hl _ (.inl rfl))),ep h.c3 (ne _ (hl _ (.inl rfl))),ep h.cv (ne _ (hl _ (.inr (.inl rfl)))),
  h.iC.same (ne _ (hl _ (.inr (.inr (.inl rfl))))),h.ma.same (ne _ (hl _ (.inr (.inr (.inr (.inl rfl)))))),h.md.same (ne _ (hl _ (.inr (.inr (.inr (.inr (.inl rfl))))))),h.mv.same (ne _ (hl _ (.inr (.inr (.inr (.inr (.inr (.inl rfl)))))))),
  fun x hx=>(h.mi x hx).same (ne _ (hl _ (.inr (.inr (.inr (.inr (.inr (.inr ⟨x,hx,rfl⟩)))))))),h.nd,h.low,fun x hx=>by obtain⟨v,k1,k2⟩:=h.ev x hx;exact⟨v,k1,k2.box hb⟩⟩
theorem sm {w:World} {b o:Nat} {arr:Array Value} {ty:TypeId} {fz:Nat×Nat} (h:w.heap[b]? =some (.cells arr ty fz)) (v:Value):(w.setCell ⟨b,o,none⟩ v).heap[b]? =some (.cells (arr.setIfInBounds o v) ty fz):=by
 have h4:=(Ab.1 h).2;grind [World.setCell]
theorem Cl {w:World} {b o:Nat} {arr:Array Value} {ty:TypeId} (h:w.heap[b]? =some (.cells arr ty (0,0))):w.frozen? ⟨b,o,none⟩=false:=by grind [World.frozen?]
theorem MI {w:World} {b:Nat} (h:w.heap[b]? =some (.cells #[.slice none 0 0, .slice none 0 0, .slice none 0 0] 36 (0,0))) (x y z:Value):∃W1 W2 W3,w.setCell ⟨b,0,none⟩ x=W1/\W1.setCell ⟨b,1,none⟩ y=W2/\W2.setCell ⟨b,2,none⟩ z=W3/\
   w.cell? ⟨b,0,none⟩=some (.slice none 0 0)/\w.frozen? ⟨b,0,none⟩=false/\W1.cell? ⟨b,1,none⟩=some (.slice none 0 0)/\W1.frozen? ⟨b,1,none⟩=false/\W2.cell? ⟨b,2,none⟩=some (.slice none 0 0)/\W2.frozen? ⟨b,2,none⟩=false/\
   W3.cell? ⟨b,0,none⟩=some x/\W3.cell? ⟨b,1,none⟩=some y/\W3.cell? ⟨b,2,none⟩=some z/\iv b w W3/\ ∀B,B<=b->Below B w W3:=by
 have h1:=sm (o:=0) h x;have h2:=sm (o:=1) h1 y;have h3:=sm (o:=2) h2 z;refine⟨_,_,_,rfl,rfl,rfl,cell_of h,Cl h,cell_of h1,Cl h1,cell_of h2,Cl h2,cell_of h3,cell_of h3,cell_of h3,⟨fun i hi=>?_,fun arr e fz ha i k q=>?_⟩,fun B hB=>?_⟩
 . rw[Below.heap_setCell _ _ _ _ hi,Below.heap_setCell _ _ _ _ hi,Below.heap_setCell _ _ _ _ hi]
 . rw[h]at ha;grind
 . exact(((Below.refl B w).setCell hB x).setCell hB y).setCell hB z
theorem Pd {w:World} {b:Nat} {x y z:Value} (h0:w.cell? ⟨b,0,none⟩=some x) (h1:w.cell? ⟨b,1,none⟩=some y) (h2:w.cell? ⟨b,2,none⟩=some z):(loadVar 36 ⟨b,0,none⟩).run Tryz.prog w= .ok (.agg #[x,y,z]) w:=by
 have h:w.rangeAt b 0 [x,y,z]:=fun j v hj=>by
  match j with
  |0=>grind
  |1=>grind
  |2=>grind
  |_+3=>cases hj
 exact run_loadVar_mid w b 0 36 [x,y,z] _ h Tryz.underlying36 rfl (by kernel_rfl)
theorem QW {fn:Func} {s t:Tmp} {ty:TypeId} (h:fn.results=#[.tmp s, .cell t ty]) {tmps:Array Value} {w:World} {a:Addr} {v:Value} (hp:tmps.getD t undef= .pointer (some a)) (hl:(loadVar ty a).run Tryz.prog w= .ok v w):(results fn tmps).run Tryz.prog w= .ok (.tuple #[tmps.getD s undef,v]) w:=by
 have hp':tmps[t]?.getD undef= .pointer (some a):=by simp_all
 simp_all[results,asAddr]
theorem cK.mono {w:World} {n k b bk ba bd bs bv:Nat} {G:bg} (h:cK w n b bk ba bd bs bv G) (hk:k<=n):cK w k b bk ba bd bs bv G:={h with low:=fun j hj=>Ar hk (h.low j hj)}
theorem Tryz.fold {l:List ae} {v:Value} {w:World} (hv:fk w l v) (hl:nV l):Calls Tryz.prog 27 #[v] w fun e w'=>∃u,e= .returned u/\jd w' u (foldM l)/\Below w.heap.size w w':=by
 letI:Inhabited aF:=⟨⟨True,#[]⟩⟩
 have h:=kE bu.ok Mn (fn:=Tryz.f27) (hfn:=by kernel_rfl) (hb:=rfl) (y:=l) hl (args:=[v]) (w:=w) (PL.cons (YL (KP l) (MC hv)) PL.nil) (cI.oI rfl _);refine Calls.mono h ?_;rintro e w' ⟨u,rfl,hu,hb,_⟩;exact⟨u,rfl,qzb hu,hb⟩
theorem QG {l:List ae} {v:Value} {w:World} (hv:fk w l v) (hlt:nV l) (hl30:l.length<=30):
  Calls Tryz.prog 9 #[v] w fun e w'=>∃b bk ba bd bs bv G u,e= .returned (.tuple #[.pointer (some ⟨b,0,none⟩),u])/\cK w' w.heap.size b bk ba bd bs bv G/\bS G (foldM l)/\jd w' u (foldM l)/\Below w.heap.size w w':=by
 obtain⟨sa,sc,rfl⟩:=hv.one;obtain⟨W0,hW0⟩:∃W0,w.alloc (.cells #[.slice none 0 0, .slice none 0 0, .slice none 0 0] 36)=W0:=⟨_,rfl⟩;have hbW0:Below w.heap.size w W0:=by rw[<-hW0];exact(Below.refl _ _).alloc (Ad _) _
 have sW0:W0.heap.size=w.heap.size+1:=by rw[<-hW0];exact Array.size_push _
 have hbx:W0.heap[w.heap.size]? =some (.cells #[.slice none 0 0, .slice none 0 0, .slice none 0 0] 36 (0,0)):=by rw[<-hW0];grind [World.alloc_heap_new]
 have hv0:=hv.cells (dS hbW0);have hnew:=GQ W0;go_enter Tryz.func9,Tryz.ntmps9
 go_wp2_with (go_at_call 26;refine hnew.mono ?_;rintro e w2 ⟨b,bk,ba,bd,bs,bv,rfl,hO,hb2⟩)
 have hv2:=hv0.cells (dS hb2);go_loopw [5] (fun i wr=>∃(k:Nat) (G:bg),k<=l.length/\i= .int .i64 k/\fk wr l (.slice sa l.length sc)/\cK wr W0.heap.size b bk ba bd bs bv G/\bS G (foldM (l.take k))/\Below W0.heap.size W0 wr)
  (fun i _=>l.length - (intOf i).toNat)
 case atStart=>exact⟨0,_,Au _,rfl,hv2,hO,bS.start,hb2⟩
 case round=>
  obtain⟨k,G,hk,rfl,hvr,hOr,hgr,hbr⟩:=hrel;by_cases hlt2:k<l.length
  . obtain⟨bb,off,cap,arr,ty,fz,hsl,hbb,hcap,hsz,hcells⟩:=hvr.resolve_left (fun h=>by rw[h.1]at hlt2;grind);simp only[Value.slice.injEq]at hsl;obtain⟨rfl, -,rfl⟩:=hsl;obtain⟨u,hcu,hdu⟩:=hcells k hlt2;have hld:=P6 hbb hcu;have hlk:=hlt.2 l[k] (AN hlt2);obtain⟨hsm,hov⟩:= @sC ⟨⟨True,#[]⟩⟩ _ hlk;have hok:lK (foldM (l.take k)):= @eX.ok ⟨⟨True,#[]⟩⟩ _ _ (@qE ⟨⟨True,#[]⟩⟩ l hlt.2 k hk) (by omega);have happ:=Tryz.apply hOr hgr hbr.size (e:=l[k]) (u:=gT l[k] u) ⟨u,rfl,hdu⟩ hsm (by omega) hok;obtain⟨SZ,mm,hSZ,hsz2,hm⟩:=uE;obtain⟨cs,hcs⟩:∃cs:Array Value,(cN l[k] u).toArray=cs:=⟨_,rfl⟩;have hcz:cs.size=mm:=by rw[<-hcs];exact(show(19:Nat)=mm from Eq.symm hm)
    rw[show gT l[k] u= .agg cs from by rw[<-hcs];rfl]at happ;rw[hcs,<-(hm:mm=19)]at hld;clear hbx;go_wp2_with (go_at_call 23;refine happ.mono ?_;rintro e wn ⟨rfl,hbn,hcn,G',hO',hg'⟩)
    exact⟨⟨k+1,G',hlt2,by go_num,hvr.cells hcn,hO',by rw[@S5 ⟨⟨True,#[]⟩⟩ l k hlt2];omega,hbr.trans hbn⟩,by grind [intOf]⟩
  . have hkl:k=l.length:=by omega
    subst hkl;rw[A8]at hgr;have hfold:=Tryz.fold hvr hlt;have hbxr:=(hbr.block _ (Ab.1 hbx).1).trans hbx;go_wp2_with (go_at_call 27;refine hfold.mono ?_;rintro e w3 ⟨u,rfl,⟨vc,vk,vd,rfl,hm1,hm2,hm3⟩,hb3⟩;have hbx3:=(hb3.block _ (Ab.1 hbxr).1).trans hbxr;obtain⟨ca,na,pa,rfl⟩:=hm1.one;obtain⟨ck,pk,rfl⟩:=hm2.one;obtain⟨cd,nd,pd,rfl⟩:=hm3.one;obtain⟨W1,W2,W3,e1,e2,e3,c0,f0,c1,f1,c2,f2,g0,g1,g2,hbb,hbel⟩:=MI hbx3 (.slice ca na pa) (.slice ck (foldM l).kept.length pk) (.slice cd nd pd);clear hbx3)
    refine bodyPost_ret (QW rfl rfl (Pd g0 g1 g2)) rfl ?_;have hm:jd W3 (.agg #[.slice ca na pa, .slice ck (foldM l).kept.length pk, .slice cd nd pd]) (foldM l):=⟨_,_,_,rfl,hm1.box hbb,hm2.box hbb,hm3.box hbb⟩;have hO3:=(hOr.below hb3).box hbb (show w.heap.size<W0.heap.size by omega);refine⟨b,bk,ba,bd,bs,bv,G,_,rfl,hO3.mono (by omega),hgr,hm,?_⟩;have h1:=Ar hbW0.size hbr.size;exact((hbW0.trans (hbr.mono hbW0.size)).trans (hb3.mono h1)).trans (hbel _ (Ad _))
def qh (w:World) (cs:List (List aq)) (v:Value):Prop:=(cs=[]/\ ∃a c,v= .slice a 0 c)\/ ∃b off cap arr e fz,v= .slice (some ⟨b,off,none⟩) cs.length cap/\w.heap[b]? =some (.cells arr e fz)/\cs.length<=cap/\off+cs.length*13<=arr.size/\
 ∀i (h:i<cs.length),∃u,(∀j,j<13->arr[off+i*13+j]? =(Yz u)[j]?)/\cH w cs[i] u
theorem qh.cells {w w':World} (hc:jk w w') {l:List (List aq)} {v:Value} (h:qh w l v):qh w' l v:=by
 rcases h with h|⟨b,off,cap,arr,e,fz,h1,h2,h3,h5,h4⟩
 . exact .inl h
 . exact .inr ⟨b,off,cap,arr,e,fz,h1,hc _ _ _ _ h2,h3,h5,fun i hi=>by obtain⟨u,k1,k2⟩:=h4 i hi;exact⟨u,k1,k2.cells hc⟩⟩
theorem OB {k:Nat} (h:k<1000):wrap64 ((k:Int)+1)=(k:Int)+1/\IntKind.i64.wrap ((k:Int)+1)=(k:Int)+1:=⟨IntWalk.wrap64_in _ (by omega),IntWalk.i64_in _ (by omega)⟩
section
section
variable [Inhabited aF]
end
end
section
def nU (c:ar):Bool:=decide (c.rules.length<=20)&&c.rules.all fun s=>decide (s.length<=300)
theorem JE {c:ar} (h:¬(c.rules.length<=20/\ ∀s∈c.rules,s.length<=300)):nU c=false:=by
 rw[Ao];grind [nU]
theorem Vb {c:ar} (h:nU c=true):pR c:=by
 unfold nU at h;rw[Ac,Aa,AB]at h;exact⟨by omega,fun s hs=>by have:=Bw (h.2 s hs);omega⟩
section
variable [Inhabited aF]
end
def dF (w:World) (c:ar) (rv:Value):Prop:=Rd w (fun _=>True) true (.bh Bs c.rules kV) rv
abbrev vB (c:ar) (rv:Value):Value:= .agg #[.int .i64 c.aS, .int .i64 c.domain, .int .i64 c.total,rv]
theorem dF.cells {w w':World} {c:ar} {rv:Value} (h:dF w c rv) (hc:jk w w'):dF w' c rv:= @WS ⟨⟨True,#[]⟩⟩ _ _ _ _ hc _ _ h
theorem dF.one {w:World} {c:ar} {rv:Value} (h:dF w c rv):∃a k,rv= .slice a c.rules.length k:=by
 unfold dF at h;generalize hs:SV.bh Bs c.rules kV=s at h
 cases h with
 |fu h0=>cases hs;simp_all
 |bP _ h0 a k=>cases hs;simp_all
 |bh b off cap arr e fz sz u hp hb hz hl hn hc h1 h2=>cases hs;grind
 |_=>cases hs
theorem L2 {w:World} {c:ar} {rv:Value} (h:dF w c rv):Rd w (fun _=>True) true (.agg c.enc) (vB c rv):=by
 refine .agg rfl fun i s v hs hv=>?_
 have hi:i<4:=(Ae.1 hs).1;unfold ar.enc at hs;match i,hi with
 |0,_|1,_|2,_=>cases hs;cases hv;exact .int _ _
 |3,_=>cases hs;cases hv;exact h
theorem qza {w:World} {c:ar} {l:List ae} {rv ev:Value} (h:dF w c rv) (he:fk w l ev):Rd w (fun _=>True) true (.agg (c.enc++[dG l])) (.agg #[.int .i64 c.aS, .int .i64 c.domain, .int .i64 c.total,rv,ev]):=by
 refine .agg rfl fun i s v hs hv=>?_
 have hi:i<5:=(Ae.1 hs).1;unfold ar.enc at hs;match i,hi with
 |0,_|1,_|2,_=>cases hs;cases hv;exact .int _ _
 |3,_=>cases hs;cases hv;exact h
 |4,_=>cases hs;cases hv;exact @MC ⟨⟨True,#[]⟩⟩ _ _ _ he
theorem SX (l:List Bs):Flat (.bh Bs l kV):= .bh fun i x j v _ hv=>by
 cases j with
 |zero=>cases hv;exact .str _
 |succ j=>cases hv
theorem Ck (c:ar):∀s∈c.enc,Flat s:=by
 intro s hs;simp only[ar.enc,Ap,BE,Dq]at hs;rcases hs with rfl|rfl|rfl|rfl
 . exact .int _ _
 . exact .int _ _
 . exact .int _ _
 grind [SX]
theorem V2 (c:ar) (l:List ae):∀s∈c.enc++[dG l],Flat s:=by
 grind [Ck,KP]
section
variable [Inhabited aF]
end
end
section
section
variable [Inhabited aF]
end
end
section
section
variable [Inhabited aF]
end
end
section
def qu (l:List aY):Prop:=l.length<=100000/\ ∀d∈l,d.over.length<=100000
def fL (l:List aY):Bool:=l.all fun d=>decide (d.over.length<=64)
theorem Uw {l:List aY} {x:Nat} (h:x<l.length) (h1:fL (l.take x)=true) (h2:l[x].over.length<=64):fL (l.take (x+1))=true:=by
 grind [fL,List.take_succ_eq_append_getElem]
theorem YF {l:List aY} {x:Nat} (h:x<l.length) (h2:64<l[x].over.length):fL l=false:=by
 grind [fL]
theorem WJ {l:List aY} {x:Nat} (h:l.length<=x) (h1:fL (l.take x)=true):fL l=true:=by rwa [Ay h]at h1
section
variable [Inhabited aF]
noncomputable def Nu (f:FuncId):Option aK:=bif Nat.beq f vX then some MX else bU f
theorem Wp (hdr:¬(default:aF).dr):∀f C,Nu f=some C->CO f C:=bM (Y9 hdr) gn
def ZH (l:List aY):aL:={α:=Nat,ok:=fun i=>i<=l.length/\fL (l.take i)=true,μ:=fun i=>l.length - i,bn:=[0,1],bc:=fun i=>[(7,lx l),(8,i64 (Int.ofNat l.length)),(9,i64 i)],bV:=fun _=>[]}
def MQ:aK:={Y:=Nat×aN×List aY,pre:=fun y=>cJ y.1 y.2.1/\qu y.2.2,args:=fun y=>[.wp ⟨y.1,0,none⟩,lx y.2.2],res:=fun y=> .bool (fL y.2.2&&decide (y.2.1.kept.length+y.2.2.length<=2048))}
theorem XZ (hdr:¬(default:aF).dr):CO Ga MQ:=bR (cfg:=fun(y:Nat×aN×List aY)=>cm Nu (cT Ga 2 (ZH y.2.2))) bu (fun _=>rfl) (fun _=>Wp hdr) (n:=600) (by
 rintro⟨b,m,l⟩ ⟨hm,hl⟩;have hm:cJ b m:=hm;have hl:qu l:=hl;have hl1:=hl.1;refine⟨⟨(0:Nat),⟨Au _,rfl⟩,?_⟩,?_⟩
 . repeat' first|exact trivial|exact rfl|refine aG (fun _=>?_) fun _=>?_|apply And.intro
 intro (x:Nat) hx0;have hx:x<=l.length:=hx0.1;have hfx:fL (l.take x)=true:=hx0.2;refine aG (fun hlt=>?_) fun hge=>?_
 . have hlt':x<l.length:=cP hlt;have hov:=hl.2 l[x] (AN hlt');refine az.2 ⟨_,eA hlt',?_⟩;refine aG (fun h=>?_) fun h=>?_
   . have h:bK 64 (Int.ofNat l[x].over.length)=true:=h;rw[ch,Aa]at h;have h:(64:Int)<(l[x].over.length:Int):=h;have hf:=YF hlt' (by omega);refine⟨?_,?_⟩
     . grind
     repeat' first|exact trivial|exact rfl|refine aG (fun _=>?_) fun _=>?_|apply And.intro
   . have h:bK 64 (Int.ofNat l[x].over.length)=false:=h;rw[ch,Ai]at h;have h:¬(64:Int)<(l[x].over.length:Int):=h;have hf:=Uw hlt' hfx (by omega);refine ah.2 ⟨cW x (by omega),?_⟩;refine⟨(x+1:Nat),⟨hlt',hf⟩,by show l.length - (x+1)<l.length - x;omega,?_⟩
     repeat' first|exact trivial|exact rfl|refine aG (fun _=>?_) fun _=>?_|apply And.intro
 . have hf:=WJ (jz hge) hfx;refine⟨(b,m,l.length),?_⟩
   repeat first|refine⟨rfl,?_⟩|refine⟨trivial,?_⟩
   refine⟨⟨hm,by grind⟩,?_⟩;refine⟨?_,?_⟩
   . grind
   repeat' first|exact trivial|exact rfl|refine aG (fun _=>?_) fun _=>?_|apply And.intro)
end
end
end Go.Proofs
namespace Go.Proofs
open Go Go.Am Go.RowKit Go.Sy
section
def nY (x:ab) (now:Int):ab:={x with aa:={x.aa with access:=now}}
def eY (now:Int) (x:ab):Bool:=decide (x.aa.access<now)
def mL (m:aN) (now:Int) (x:ab):aY:=⟨1,nY x now,kX m x.key⟩
def dZ (m:aN) (now:Int) (l:List ab):List aY:=(l.filter (eY now)).map (mL m now)
def fv (c:ar) (nil:Bool) (m:aN) (r:bG) (now:Int):List aY×Int:=
 if(cB c nil m r now).2=0 then
  (if(fL (dZ m now (cB c nil m r now).1)&&decide (m.kept.length+(dZ m now (cB c nil m r now).1).length<=2048))=true then(dZ m now (cB c nil m r now).1,0)else([],9))
 else([],(cB c nil m r now).2)
section
variable [Inhabited aF]
theorem UZ {m:aN} {now:Int} {l:List ab} {i:Nat} (h:i<l.length):dZ m now (l.take (i+1))=dZ m now (l.take i)++(if eY now l[i]then[mL m now l[i]]else[]):=by
 grind [dZ,LQ]
theorem Lx (m:aN) (now:Int) (l:List ab) (i:Nat):(dZ m now (l.take i)).length<=i:=by
 grind [dZ]
def sY (x:ab) (now:Int):ab:={x with aa:={x.aa with access:=if now>x.aa.access then now else x.aa.access}}
theorem TD {x:ab} {now:Int} (h:eY now x=true):sY x now=nY x now:=by
 grind [eY,sY,nY]
def M5:aK:={Y:=ab×Int,pre:=fun _=>True,args:=fun y=>[.agg y.1.enc,i64 y.2],res:=fun y=> .bA [.agg (sY y.1 y.2).enc, .bool (eY y.2 y.1)]}
theorem Zk:CO wg M5:=bR (cfg:=fun(_:ab×Int)=>cm bU (fun _ _=>none)) bu (fun _=>rfl) (fun _=>gn) (n:=500) (by
 rintro⟨⟨⟨kn,kd,kp⟩,⟨v,ho,se,ht,pe,ex,cr,ac⟩⟩,now⟩ -
 (conv=>whnf)
 repeat ((conv=>whnf);refine And.intro rfl ?_)
 refine⟨?_,trivial⟩;grind [eY])
noncomputable def O9 (gL:FuncId->Option aK) (l5:FuncId->Nat->Option aL):iw:={tab:=ph,view:=fun t=>bif Nat.beq t H5 then some ⟨aY,aY.enc⟩else NU t,gL,l5}
noncomputable def Nq (f:FuncId):Option aK:=bif Nat.beq f wg then some M5 else bif Nat.beq f Gg then some MP else bif Nat.beq f Ga then some MQ else bif Nat.beq f rP then some CZ else bU f
theorem Vs (hdr:¬(default:aF).dr):∀f C,Nq f=some C->CO f C:=bM Zk (bM (XX hdr) (bM (XZ hdr) (bM (Ke hdr) gn)))
theorem zd (n:Nat) (h:n<=60000):(Nat.ble (n*128) 16777216&&Nat.ble n 16777216)=true:=by
 rw[Ac,AF,AF];omega
def Ng:aK:={Y:=ar×Mp×bG×Int,pre:=oC,args:=fun y=>[.agg y.1.enc,y.2.1.arg, .agg y.2.2.1.enc,i64 y.2.2.2],res:=fun y=> .bA [lx (fv y.1 y.2.1.isNone y.2.1.m y.2.2.1 y.2.2.2).1,i64 (fv y.1 y.2.1.isNone y.2.1.m y.2.2.1 y.2.2.2).2]}
def ZK (y:ar×Mp×bG×Int):aL:=let l:=(cB y.1 false y.2.1.m y.2.2.1 y.2.2.2).1;{α:=Nat,ok:=fun i=>i<=l.length,μ:=fun i=>l.length - i,bn:=[1,3],bc:=fun i=>[(12, .own 2),(28,items l),(29,i64 (Int.ofNat l.length)),(30,i64 i)],bV:=fun i=>[(2, .arr aY (dZ y.2.1.m y.2.2.2 (l.take i)) aY.enc H5)]}
theorem Mo (hdr:¬(default:aF).dr):CO rY Ng:=bR (cfg:=fun(y:ar×Mp×bG×Int)=>O9 Nq (cT rY 6 (ZK y))) bu (fun _=>rfl) (fun _=>Vs hdr) (n:=900) (by
 rintro⟨c,m,r,now⟩ hp;have h1:m.at:=hp.1;have h2:jt c m.m:=hp.2.1;have h3:lB r:=hp.2.2
 cases m with
 |none=>
  refine⟨(c,(none:Mp),r,now),?_⟩
  repeat first|refine⟨rfl,?_⟩|refine⟨trivial,?_⟩
  refine⟨hp,?_⟩
  (conv=>whnf)
  repeat' first|exact trivial|exact rfl|refine aG (fun _=>?_) fun _=>?_|apply And.intro
 | some y=>
  obtain⟨b,m⟩:=y;have hS:cJ b m:=h1;have h2:jt c m:=h2;obtain⟨hl,hmem⟩:=h2.items false r now;refine⟨(c,(some (b,m):Mp),r,now),?_⟩
  repeat first|refine⟨rfl,?_⟩|refine⟨trivial,?_⟩
  refine⟨hp,?_⟩;refine aG (fun h=>?_) fun h=>?_
  . have h:(!((cB c false m r now).2==0))=true:=h;have e:fv c false m r now=([],(cB c false m r now).2):=by grind [fv]
    refine⟨?_,?_⟩
    . grind [fv]
    refine⟨?_,trivial⟩;grind [fv]
  have h:(!((cB c false m r now).2==0))=false:=h;have e:fv c false m r now=if(fL (dZ m now (cB c false m r now).1)&&decide (m.kept.length+(dZ m now (cB c false m r now).1).length<=2048))=true then(dZ m now (cB c false m r now).1,0)else([],9):=by grind [fv]
  have hdl:∀k,(kX m k).length<=50000:=fun k=>by unfold kX;rw[A1];exact Fg hS.ok k
  refine⟨⟨(0:Nat),Au _,?_⟩,?_⟩
  . repeat' first|exact trivial|exact rfl|refine aG (fun _=>?_) fun _=>?_|apply And.intro
    all_goals (try exact az.2 ⟨_,rfl,ah.2 ⟨rfl,fun _=>rfl⟩⟩)
  intro (x:Nat) hx;have hx:x<=(cB c false m r now).1.length:=hx;have hpl:=Lx m now (cB c false m r now).1 x;refine aG (fun hlt=>?_) fun hge=>?_
  . have hlt':x<(cB c false m r now).1.length:=cP hlt;have hn:=UZ (m:=m) (now:=now) hlt';have mu:(cB c false m r now).1.length - (x+1)<(cB c false m r now).1.length - x:=by omega
    (conv=>whnf)
    refine az.2 ⟨_,eA hlt',?_⟩;refine⟨((cB c false m r now).1[x],now),?_⟩
    repeat first|refine⟨rfl,?_⟩|refine⟨trivial,?_⟩
    refine aG (fun o=>?_) fun o=>?_
    . have o:eY now (cB c false m r now).1[x]=true:=o;have hdr2:mL m now (cB c false m r now).1[x]=⟨1,sY (cB c false m r now).1[x] now,kX m (cB c false m r now).1[x].key⟩:=by grind [mL,TD]
      rw[Al o,hdr2]at hn;refine⟨((some (b,m),(cB c false m r now).1[x].key):Mp×aD),?_⟩
      repeat first|refine⟨rfl,?_⟩|refine⟨trivial,?_⟩
      refine⟨hS,?_⟩;refine⟨(⟨1,sY (cB c false m r now).1[x] now,kX m (cB c false m r now).1[x].key⟩:aY),rfl,?_⟩
      (conv=>whnf)
      refine ah.2 ⟨zd _ (by grind [dZ]),?_⟩
      (conv=>whnf)
      refine ah.2 ⟨cW x (by omega),?_⟩;refine⟨(x+1:Nat),hlt',mu,?_⟩
      repeat' first|exact trivial|exact rfl|refine aG (fun _=>?_) fun _=>?_|apply And.intro
      all_goals ((conv=>whnf);show lx (dZ m now ((cB c false m r now).1.take x)++[⟨1,sY (cB c false m r now).1[x] now,kX m (cB c false m r now).1[x].key⟩])=lx (dZ m now ((cB c false m r now).1.take (x+1)));rw[hn])
    . have o:eY now (cB c false m r now).1[x]=false:=o;rw[An (by simp[o]),BQ]at hn
      (conv=>whnf)
      refine ah.2 ⟨cW x (by omega),?_⟩;refine⟨(x+1:Nat),hlt',mu,?_⟩
      repeat' first|exact trivial|exact rfl|refine aG (fun _=>?_) fun _=>?_|apply And.intro
      all_goals ((conv=>whnf);show lx (dZ m now ((cB c false m r now).1.take x))=lx (dZ m now ((cB c false m r now).1.take (x+1)));rw[hn])
  . have hge':(cB c false m r now).1.length<=x:=jz hge;have hall:dZ m now ((cB c false m r now).1.take x)=dZ m now (cB c false m r now).1:=by rw[Ay hge']
    have hlf:qu (dZ m now (cB c false m r now).1):=by
      rw[hall]at hpl;refine⟨by omega,fun d hd=>?_⟩;obtain⟨y,_,rfl⟩:=Aw.1 hd;have:=hdl y.key;show(kX m y.key).length<=100000
      omega
    refine⟨(b,m,dZ m now (cB c false m r now).1),?_⟩;refine⟨rfl,?_⟩;refine⟨by show lx (dZ m now ((cB c false m r now).1.take x))=lx (dZ m now (cB c false m r now).1);rw[hall],?_⟩;refine⟨⟨hS,hlf⟩,?_⟩;refine aG (fun q=>?_) fun q=>?_
    . have q:(!(fL (dZ m now (cB c false m r now).1)&&decide (m.kept.length+(dZ m now (cB c false m r now).1).length<=2048)))=true:=q;rw[A0]at q;rw[q,An Bool.false_ne_true]at e;refine⟨?_,?_⟩
      . show(fv c false m r now).1=([]:List aY)
        rw[e]
      refine⟨?_,trivial⟩;show(9:Int)=(fv c false m r now).2
      rw[e]
    . have q:(!(fL (dZ m now (cB c false m r now).1)&&decide (m.kept.length+(dZ m now (cB c false m r now).1).length<=2048)))=false:=q;rw[Bool.not_eq_false']at q;rw[q,Al rfl]at e;refine⟨?_,?_⟩
      . show lx (dZ m now ((cB c false m r now).1.take x))=lx (fv c false m r now).1
        rw[e,hall]
      refine⟨?_,trivial⟩;show(0:Int)=(fv c false m r now).2
      rw[e])
end
end
end Go.Proofs
namespace Go.Proofs
open Go Go.Am Go.RowKit Go.Sy Go.Gm Go.Maps Go.Sort Go.Shelf
theorem Um [Inhabited aF] {w:World} {c:ar} {l:List ae} {v:Value} (h:Rd w (fun _=>True) true (.agg (c.enc++[dG l])) v):∃rv ev,v= .agg #[.int .i64 c.aS, .int .i64 c.domain, .int .i64 c.total,rv,ev]/\dF w c rv/\fk w l ev:=by
 cases h with
 | @agg cs vs h1 h2=>
  obtain⟨vl⟩:=vs;match vl,h1 with
  |[a,b,d,rv,ev],_=>
   have k0:=gZ (h2 0 (.int .i64 c.aS) a rfl rfl);have k1:=gZ (h2 1 (.int .i64 c.domain) b rfl rfl);have k2:=gZ (h2 2 (.int .i64 c.total) d rfl rfl);subst k0;subst k1;subst k2;exact⟨rv,ev,rfl,h2 3 _ _ rfl rfl,M7 (h2 4 (dG l) _ rfl rfl)⟩
section
theorem uN (w:World): @cI (kW w) w:=by intro b _;rfl
theorem uY (w:World):¬(@default aF (kW w)).dr:=fun h=>h
def spine:Nat->Code->Code
 |0,c=>c
 |n+1, .seq _ b=>spine n b
 |_+1,c=>c
def oW (r:bG):Bool:=decide (r.host.length<=2000)&&decide (r.path.length<=2000)
def eL (c:ar) (l:List ae) (r:bG):Bool:=nU c&&oW r&&(bO (Int.ofNat l.length) 30&&l.all iV)
theorem wX {r:bG} (h:oW r=true):lB r:=by
 unfold oW at h;rw[Ac,Aa,Aa]at h;exact⟨by omega,by omega⟩
theorem CN {G:bg} {l:List ae} {c:ar} (g:bS G (foldM l)) (hl:nV l) (h30:l.length<=30) (hc:nU c=true):jt c (foldM l):=by
 letI:Inhabited aF:=⟨⟨True,#[]⟩⟩
 have hb:=qE hl.2 l.length (Ad _);rw[A8]at hb;have hkp:=hb.kept;refine⟨Vb hc,Ar (KV _) (by omega),fun x hx=>?_,wC g⟩;obtain⟨e,he,rfl⟩:=Aw.1 hx;obtain⟨k,hk,rfl⟩:=(wz g e).1 he;have h1:=xE l (As.1 (da.1 (qG hk)).1).1;have h2:=hl.2 _ h1;simp only[iV,Ac,ed,Aa,Ah]at h2;show(ec (foldM l) k).1.key.name.length<=2000/\(ec (foldM l) k).1.key.domain.length<=100000/\(ec (foldM l) k).1.key.path.length<=100000/\(ec (foldM l) k).1.aa.value.length<=2000
 omega
section
variable [Inhabited aF]
noncomputable def Nr (f:FuncId):Option aK:=bif Nat.beq f px then some Cz else bU f
theorem Vt:∀f C,Nr f=some C->CO f C:=bM Js gn
def LY:aK:={Y:=ar×List ae×bG,pre:=fun _=>True,args:=fun y=>[.agg (y.1.enc++[dG y.2.1]), .agg y.2.2.enc],res:=fun y=> .bool (eL y.1 y.2.1 y.2.2)}
def XR (c:ar):aL:={α:=Nat,ok:=fun i=>i<=c.rules.length/\ ∀j (h:j<c.rules.length),j<i->c.rules[j].length<=300,μ:=fun i=>c.rules.length - i,bn:=[2,3,4],bc:=fun i=>[(5,i64 i)],bV:=fun _=>[]}
theorem XA:CO OU LY:=bR (cfg:=fun(y:ar×List ae×bG)=>cm Nr (cT OS 4 (XR y.1))) bu (fun _=>rfl) (fun _=>Vt) (n:=900) (by
 rintro⟨c,l,r⟩ -;have no1:nU c=false->false=eL c l r:=fun h=>by grind [eL]
 have no2:oW r=false->false=eL c l r:=fun h=>by grind [eL]
 refine aG (fun h=>?_) fun h20=>?_
 . have h:bK 20 (Int.ofNat c.rules.length)=true:=h;rw[ch,Aa]at h;have h:(20:Int)<(c.rules.length:Int):=h
   (conv=>whnf)
   exact⟨no1 (JE fun h'=>by omega),trivial⟩
 have hr:c.rules.length<=20:=by
   have h20:bK 20 (Int.ofNat c.rules.length)=false:=h20;rw[ch,Ai]at h20;have h20:¬(20:Int)<(c.rules.length:Int):=h20;omega
 refine aG (fun h=>?_) fun h=>?_
 . have h:bK 2000 (Int.ofNat r.host.length)=true:=h;rw[ch,Aa]at h;have h:(2000:Int)<(r.host.length:Int):=h
   (conv=>whnf)
   exact⟨no2 (by grind [oW]),trivial⟩
 have hh:decide (r.host.length<=2000)=true:=by
   have h:bK 2000 (Int.ofNat r.host.length)=false:=h;rw[ch,Ai]at h;have h:¬(2000:Int)<(r.host.length:Int):=h;grind
 refine aG (fun h=>?_) fun h=>?_
 . have h:bK 2000 (Int.ofNat r.path.length)=true:=h;rw[ch,Aa]at h;have h:(2000:Int)<(r.path.length:Int):=h
   (conv=>whnf)
   exact⟨no2 (by grind [oW]),trivial⟩
 have hp:decide (r.path.length<=2000)=true:=by
   have h:bK 2000 (Int.ofNat r.path.length)=false:=h;rw[ch,Ai]at h;have h:¬(2000:Int)<(r.path.length:Int):=h;grind
 have hlr:oW r=true:=by grind [oW]
 refine⟨⟨(0:Nat),⟨Au _,fun j h hj=>absurd hj (A3 _)⟩,?_⟩,?_⟩
 . repeat' first|exact trivial|exact rfl|refine aG (fun _=>?_) fun _=>?_|apply And.intro
 rintro(x:Nat) ⟨hx,hx2⟩;have hx:x<=c.rules.length:=hx;refine aG (fun hlt=>?_) fun hge=>?_
 . have hlt':x<c.rules.length:=cP hlt;refine az.2 ⟨_,eA hlt',?_⟩;refine aG (fun hs=>?_) fun hs=>?_
   . have hs:bK 300 (Int.ofNat c.rules[x].length)=true:=hs;rw[ch,Aa]at hs;have hs:(300:Int)<(c.rules[x].length:Int):=hs
     (conv=>whnf)
     exact⟨no1 (JE fun h'=>by have:=h'.2 _ (AN hlt');omega),trivial⟩
   . have hs:bK 300 (Int.ofNat c.rules[x].length)=false:=hs;rw[ch,Ai]at hs;have hs:¬(300:Int)<(c.rules[x].length:Int):=hs;refine ah.2 ⟨cW x (by omega),?_⟩;refine⟨(x+1:Nat),⟨hlt',fun j h hj=>?_⟩,by show c.rules.length - (x+1)<c.rules.length - x;omega,?_⟩
     . grind
     . repeat' first|exact trivial|exact rfl|refine aG (fun _=>?_) fun _=>?_|apply And.intro
 . have hge':c.rules.length<=x:=jz hge;have hc:nU c=true:=by
     grind [nU,List.getElem_of_mem]
   refine⟨(l,30),?_⟩
   repeat first|refine⟨rfl,?_⟩|refine⟨trivial,?_⟩
   refine⟨by show(30:Int)<=1000000;omega,?_⟩;refine⟨?_,trivial⟩;grind [eL])
end
end
theorem qzc (w:World) (x y z:Value):∃W1 W2 W3,(w.alloc (.cells #[.slice none 0 0, .slice none 0 0, .slice none 0 0] 36)).setCell ⟨w.heap.size,0,none⟩ x=W1/\W1.setCell ⟨w.heap.size,1,none⟩ y=W2/\W2.setCell ⟨w.heap.size,2,none⟩ z=W3/\
  (w.alloc (.cells #[.slice none 0 0, .slice none 0 0, .slice none 0 0] 36)).cell? ⟨w.heap.size,0,none⟩=some (.slice none 0 0)/\(w.alloc (.cells #[.slice none 0 0, .slice none 0 0, .slice none 0 0] 36)).frozen? ⟨w.heap.size,0,none⟩=false/\W1.cell? ⟨w.heap.size,1,none⟩=some (.slice none 0 0)/\W1.frozen? ⟨w.heap.size,1,none⟩=false/\W2.cell? ⟨w.heap.size,2,none⟩=some (.slice none 0 0)/\W2.frozen? ⟨w.heap.size,2,none⟩=false/\
  W3.heap[w.heap.size]? =some (.cells #[x,y,z] 36 (0,0))/\Below w.heap.size w W3:=by
 have hb:(w.alloc (.cells #[.slice none 0 0, .slice none 0 0, .slice none 0 0] 36)).heap[w.heap.size]? =some (.cells #[.slice none 0 0, .slice none 0 0, .slice none 0 0] 36 (0,0)):=World.alloc_heap_new _ _;obtain⟨W1,W2,W3,e1,e2,e3,c0,f0,c1,f1,c2,f2,g0,g1,g2,hbb,hbel⟩:=MI hb x y z;have h1:=sm (o:=0) hb x;rw[e1]at h1;have h2:=sm (o:=1) h1 y;rw[e2]at h2;have h3:=sm (o:=2) h2 z;rw[e3]at h3;exact⟨W1,W2,W3,e1,e2,e3,c0,f0,c1,f1,c2,f2,h3,((Below.refl _ _).alloc (Ad _) _).trans (hbel _ (Ad _))⟩
abbrev jq (r:bG):Value:= .agg #[.string ⟨r.host.toArray⟩, .string ⟨r.path.toArray⟩, .bool r.aR, .bool r.iN]
theorem CQ (r:bG):∀s∈r.enc,Flat s:=by
 intro s hs;simp only[bG.enc,Ap,BE,Dq]at hs;rcases hs with rfl|rfl|rfl|rfl
 . exact .str _
 . exact .str _
 . exact .bool _
 . exact .bool _
theorem FC {w:World} (r:bG):Rd w (fun _=>True) true (.agg r.enc) (jq r):=by
 refine .agg rfl fun i s v hs hv=>?_
 have hi:i<4:=(Ae.1 hs).1;unfold bG.enc at hs;match i,hi with
 |0,_|1,_=>cases hs;cases hv;exact .str _
 |2,_|3,_=>cases hs;cases hv;exact .bool _
theorem Tryz.eL {w:World} {c:ar} {l:List ae} {r:bG} {rv ev:Value} (h:dF w c rv) (he:fk w l ev):Calls Tryz.prog 7 #[.agg #[.int .i64 c.aS, .int .i64 c.domain, .int .i64 c.total,rv,ev],jq r] w fun e w'=>e= .returned (.bool (Go.Proofs.eL c l r))/\Below w.heap.size w w':=
 yE (C:=fun _=>LY) (fun I=> @XA I) (hfn:=rfl) (hb:=rfl) (args:=[.agg #[.int .i64 c.aS, .int .i64 c.domain, .int .i64 c.total,rv,ev],jq r]) (fun I=>⟨(c,l,r),trivial,PL.cons (@sX I _ _ _ _ _ (V2 c l) _ (qza h he)) (PL.cons (@sX I _ _ _ _ _ (CQ r) _ (FC r)) PL.nil),rfl⟩)
section
def tH:aD:=⟨[110],[97,46,116,101,115,116],[47]⟩
def qi:ae:=⟨⟨0,1,1⟩,⟨0,0,0⟩,1,tH,⟨[118],true,false,false,false,1099511627776,0,0⟩,[]⟩
def mo:List ae:=[qi]
def fA:ar:=⟨1,5,9,[]⟩
def fK:bG:=⟨[97,46,116,101,115,116],[47,120],false,false⟩
def tI:ab:=⟨tH,qi.aa⟩
theorem Oj:lK mM:=⟨by decide,fun x hx=>(by cases hx),by decide,by decide⟩
theorem XP:lB fK:=⟨by decide,by decide⟩
theorem JY:nV mo:=⟨by decide,by decide+kernel⟩
theorem TK:cB fA false (foldM mo) fK 5=([tI],0):=by kernel_rfl
theorem VP:fv fA false (foldM mo) fK 5=([⟨1,nY tI 5,[⟨0,1,1⟩]⟩],0):=by kernel_rfl
section
variable [Inhabited aF]
noncomputable def Nl (f:FuncId):Option aK:=bif Nat.beq f Hp then some J5 else bif Nat.beq f rY then some Ng else bU f
theorem VC (hdr:¬(default:aF).dr):∀f C,Nl f=some C->CO f C:=bM (Jr hdr) (bM (Mo hdr) gn)
theorem YI {b:Nat} {m:aN} {x:aY} {y:ab} (hS:cJ b m) (hf:jt fA m) (hI:cB fA false m fK 5=([y],0)) (ht:jo [y]=[110,61,118]) (hP:fv fA false m fK 5=([x],0)) (hx:x.item.aa.access=5):wp (cm Nl (fun _ _=>none)) 2000
   ⟨OT,56,0,[.code (spine 3 (Tryz.f8.body.getD .skip))],⟨[(1, .wp ⟨b,0,none⟩)],⟨0,[]⟩,[]⟩⟩ zl:=by
 have hpre:oC (fA,some (b,m),fK,5):=⟨hS,hf,XP⟩;have e1:jo (cB fA false m fK 5).1=[110,61,118]:=by rw[hI];exact ht
 have e2:(cB fA false m fK 5).2=0:=by rw[hI]
 have e3:(fv fA false m fK 5).2=0:=by rw[hP]
 have e4:(fv fA false m fK 5).1=[x]:=by rw[hP]
 refine⟨(fA,(some (b,m):Mp),fK,5),?_⟩
 repeat first|refine⟨rfl,?_⟩|refine⟨trivial,?_⟩
 refine⟨hpre,?_⟩;refine⟨(fA,(some (b,m):Mp),fK,5),?_⟩
 repeat first|refine⟨rfl,?_⟩|refine⟨trivial,?_⟩
 refine⟨hpre,?_⟩
 (conv=>whnf)
 refine aG (fun _=>?_) fun h=>?_;rotate_left
 . have h:(jo (cB fA false m fK 5).1==[110,61,118])=false:=h;rw[e1]at h;cases h
 (conv=>whnf)
 refine aG (fun _=>?_) fun h=>?_;rotate_left
 . have h:((fv fA false m fK 5).2==0)=false:=h;rw[e3]at h;cases h
 (conv=>whnf)
 refine aG (fun _=>?_) fun h=>?_;rotate_left
 . have h:(Int.ofNat (fv fA false m fK 5).1.length==1)=false:=h;rw[e4]at h;cases h
 (conv=>whnf)
 refine az.2 ⟨x,(show(fv fA false m fK 5).1[Int.toNat 0]? =some x from by rw[e4];rfl),?_⟩
 (conv=>whnf)
 show(bif true then x.item.aa.access==5 else false)=true
 rw[hx];rfl
end
theorem Ov (w:World):Calls Tryz.prog 8 #[] w fun e w'=>e= .returned (.bool true)/\Below w.heap.size w w':=by
 refine ID Tryz.func8 rfl ?_;simp only[Tryz.ntmps8,Bj,Bc,Bt,Nat.reduceAdd,Nat.reduceSub,Db,Da,Dl,Dg,BA,BV];refine dW.next Tryz.func8 ?_;go_wp2;show dW _ _ _ _ _ _
 refine dW.next Tryz.func8 ?_;have hnew:=GQ w;go_wp2_with (go_at_call 26;refine hnew.mono ?_;rintro e w1 ⟨b,bk,ba,bd,bs,bv,rfl,hO,hb1⟩)
 show dW _ _ _ _ _ _
 have happ1:=Tryz.apply hO bS.start hb1.size (e:=qi) (u:=(.agg #[.int .i64 0, .int .i64 1, .int .i64 1, .int .i64 0, .int .i64 0, .int .i64 0, .int .i64 1, .string ⟨#[110]⟩, .string ⟨#[97,46,116,101,115,116]⟩, .string ⟨#[47]⟩, .string ⟨#[118]⟩, .bool true, .bool false, .bool false, .bool false, .int .i64 1099511627776, .int .i64 0, .int .i64 0, .slice none 0 0])) ⟨.slice none 0 0,rfl, .inl ⟨rfl,none,0,rfl⟩⟩ ⟨by decide,by decide⟩ (by decide) Oj;refine dW.next Tryz.func8 ?_;go_wp2_with (go_at_call 23;refine happ1.mono ?_;rintro e w2 ⟨rfl,hb2,hc2,G2,hO2,hg2⟩)
 show dW _ _ _ _ _ _
 have hS:=zO (l:=mo) hO2 hg2 JY;have hf:jt fA (foldM mo):=CN hg2 JY (by decide) (by decide);letI:Inhabited aF:=kW w2
 refine dW.mono (QS (n:=2000) (c:=spine 3 (Tryz.f8.body.getD .skip)) bu rfl (VC (uY w2)) rfl (YI hS hf TK (by decide+kernel) VP rfl) ?_ (uN w2)) ?_
 . exact .cons rfl (.wp _) .nil
 . rintro e w' ⟨rfl,hb'⟩;exact⟨rfl,(hb1.trans hb2).trans (hb'.mono (Ar hb1.size hb2.size))⟩
end
end Go.Proofs
namespace Go.Proofs
open Go Go.Am Go.RowKit Go.Sy
structure js (f:ab->ab):Prop where
 key:∀x,(f x).key=x.key
 ze:∀x,(f x).aa.aj=x.aa.aj
 acc:∀x,x.aa.access<=(f x).aa.access
 same:∀x,(f x).aa={x.aa with access:=(f x).aa.access}
theorem SQ {f:ab->ab} (h:js f) (l:List ab) (k:aD):ff (l.map f) k=(ff l k).map f:=by
 unfold ff;rw[DJ];congr 1
 apply B5;intro x _;simp[h.key]
theorem xL {f:ab->ab} (h:js f) (l:List ab) (d:Bs) (all:Bool):ij (l.map f) d all=(ij l d all).map f:=by
 unfold ij;rw[DJ];congr 1
 apply B5;intro x _;simp[h.key]
theorem RJ {f:ab->ab} (h:js f) {x b:ab} (hs:gC x b=false):gC (f x) b=false:=by
 rw[Ao,DU,uv]at hs⊢;have h1:=h.acc x;have h2:=h.ze x;have h3:=h.key x;rw[h2,h3];intro hc;apply hs;rcases hc with hc|⟨hc,hc'⟩
 . left;omega
 . by_cases he:x.aa.access=b.aa.access
   . right;exact⟨he,hc'⟩
   . left;omega
theorem SP {f:ab->ab} (h:js f) {l:List ab} {d:Bs} {all:Bool} {b:ab} (hb:b∈ij l d all) (hall:∀x∈ij l d all,gC x b=false) (hf:f b=b):l7 (l.map f) d all=b.key:=by
 have hb':b∈ij (l.map f) d all:=by rw[xL h];exact Aw.2 ⟨b,hb,hf⟩
 obtain⟨z,hz,he,_,hz2⟩:=ui (l:=l.map f) (d:=d) (all:=all) (by intro e;rw[e]at hb';cases hb');rw[he];have h1:gC b z=false:=hz2 b hb';have h2:gC z b=false:=by
  rw[xL h]at hz;obtain⟨y,hy,rfl⟩:=Aw.1 hz;exact RJ h (hall y hy)
 exact Ca h2 h1
theorem LH {f:ab->ab} (h:js f) (m:Nat) (d:Bs) (all:Bool):∀(n:Nat) (l:List ab),l.length<=n->KN l->(∀x∈l,f x≠x->x∈jQ m d all l)->jQ m d all (l.map f)=(jQ m d all l).map f:=by
 intro n;have done:∀l:List ab,(ij l d all).length<=m->jQ m d all (l.map f)=(jQ m d all l).map f:=by
  intro l hl;rw[sx hl,sx (by rw[xL h,A1];exact hl)]
 induction n with
 |zero=>intro l hl _ _;exact done l (Ar (A2 _ _) (by omega))
 |succ n ih=>
  intro l hl hk hf;by_cases hm:m<(ij l d all).length
  . obtain⟨b,hb,he,_,hall⟩:=ui (l:=l) (d:=d) (all:=all) (by intro e;rw[e]at hm;cases hm);have hbl:b∈l:=(As.1 hb).1;have hbf:f b=b:=by
     apply Bk;intro hn;have h1:=hf b hbl hn;rw[pJ hm,he]at h1;have h2:=(As.1 ((oP m d all _).subset h1)).2;simp at h2
    rw[pJ hm,pJ (l:=l.map f) (by rw[xL h,A1];exact hm),SP h hb hall hbf,he,SQ h];refine ih _ (by have:=Jc hbl;omega) (hk.sub AI) (fun x hx hn=>?_);have h1:=hf x (As.1 hx).1 hn;rw[pJ hm,he]at h1;exact h1
  . exact done l (by omega)
theorem KF {f:ab->ab} (h:js f) (cap:Nat):∀(ds:List Bs) (l:List ab),KN l->(∀x∈l,f x≠x->x∈oc cap l ds)->oc cap (l.map f) ds=(oc cap l ds).map f
 |[],_,_,_=>rfl
 |d::ds,l,hk,hf=>by
  have e:∀L:List ab,oc cap L (d::ds)=oc cap (jQ cap d false L) ds:=fun _=>rfl
  rw[e,e,LH h cap d false l.length l (Ad _) hk (fun x hx hn=>(sG cap ds _).subset (e l▸hf x hx hn))];refine KF h cap ds _ (hk.sub (oP _ _ _ _)) (fun x hx hn=>?_);have:=hf x ((oP _ _ _ _).subset hx) hn;rwa [e]at this
theorem Ud {f:ab->ab} (h:js f) (x:ab) (now:Int):iY (f x).aa now=iY x.aa now:=by
 rw[h.same x];rfl
theorem Wl {f:ab->ab} (h:js f) (l:List ab) (now:Int):bE (l.map f) now=(bE l now).map f:=by
 unfold bE;rw[DJ];congr 1
 apply B5;intro x _;simp only[DT,Ud h]
theorem SL {f:ab->ab} (h:js f) (l:List ab):dc (l.map f)=dc l:=by
 unfold dc;rw[List.foldl_map];simp only[h.key]
theorem We {f:ab->ab} (h:js f) {cap total:Nat} {l:List ab} {now:Int} (hk:KN l) (hf:∀x∈l,f x≠x->x∈pV cap total l now):pV cap total (l.map f) now=(pV cap total l now).map f:=by
 have hkl:KN (bE l now):=hk.sub AI;have hs:∀x∈bE l now,f x≠x->x∈pV cap total l now:=fun x hx hn=>hf x (As.1 hx).1 hn
 unfold pV at hs⊢;rw[Wl h,SL h,KF h cap _ _ hkl (fun x hx hn=>(oP _ _ _ _).subset (hs x hx hn))];exact LH h total [] true _ _ (Ad _) (hkl.sub (sG _ _ _)) (fun x hx hn=>hs x ((sG _ _ _).subset hx) hn)
theorem wR {f:ab->ab} (h:js f):∀l:List ab,ir (l.map f)=ir l
 |[]=>rfl
 |[_]=>rfl
 |x::y::l=>by
  have:=wR h (y::l);simp only[AW,ir,h.key]at this⊢;rw[this]
theorem SU {f:ab->ab} (h:js f) (x:ab) (r:bG) (now:Int):lE (f x) r now=lE x r now:=by
 unfold lE;rw[h.key,h.same x];rfl
theorem Rz {f:ab->ab} (h:js f) (x y:ab):gY (f x) (f y)=gY x y:=by
 rw[Cv,Cv,h.key,h.key,h.ze,h.ze]
theorem Vf {f:ab->ab} (h:js f) (l:List ab) (r:bG) (now:Int):oh (l.map f) r now=(oh l r now).map f:=by
 unfold oh;rw[DJ];congr 1
 apply B5;intro x _;simp only[DT,SU h]
theorem Yf {f:ab->ab} (L:List ab) {k:Nat} (hk:k<L.length):((L.map f)[k]?).getD nJ=f ((L[k]?).getD nJ):=by
 rw[AE,Ag hk];rfl
theorem Mg {f:ab->ab} (h:js f) (x:ab) (L:List ab):∀k,k<=L.length->fY (f x) (L.map f) k=fY x L k
 |0,_=>rfl
 |k+1,hk=>by
  unfold fY;rw[Yf L (by omega),Rz h,Mg h x L k (by omega)]
theorem Yg {f:ab->ab} (h:js f) (L:List ab) (x:ab):gX (L.map f) (f x)=(gX L x).map f:=by
 unfold gX oJ;rw[A1,Mg h x L _ (Ad _),Br,AW,DX,Et]
theorem Ku {f:ab->ab} (h:js f):∀(l a:List ab),(l.map f).foldl gX (a.map f)=(l.foldl gX a).map f
 |[],_=>rfl
 |x::l,a=>by
  rw[AW,Bb,Bb,Yg h,Ku h l]
theorem Wm {f:ab->ab} (h:js f) (l:List ab) (r:bG) (now:Int):gE (l.map f) r now=(gE l r now).map f:=by
 unfold gE fD;rw[Vf h];exact Ku h _ []
theorem Wn {f:ab->ab} (h:js f) (l:List ab):jo (l.map f)=jo l:=by
 unfold jo;rw[Dd];congr 1
 apply By;intro x _;simp only[DT,nW,h.key];rw[h.same x]
def gA (L:List ab) (now:Int) (x:ab):ab:=if eY now x&&decide (x∈L)then nY x now else x
theorem yn (L:List ab) (now:Int):js (gA L now):=by
 refine⟨fun x=>?_,fun x=>?_,fun x=>?_,fun x=>?_⟩
 all_goals
  unfold gA;split
  . rename_i hc
    first|rfl|(have h1:=(Ac _ _▸hc).1;simp only[eY,Aa]at h1;show x.aa.access<=now;omega)
  . first|rfl|exact Eg _
theorem Sj {c:ar} {m m':aN} {now:Int} {r:bG} (hr:ir (fG m)=true) (he:fG m'=(fG m).map (gA (gE (fP c m now) r now) now)):fP c m' now=(fP c m now).map (gA (gE (fP c m now) r now) now):=by
 have ht:=yn (gE (fP c m now) r now) now;have hf:∀x∈fG m,gA (gE (fP c m now) r now) now x≠x->x∈fP c m now:=by
   intro x _ hn;apply Bk;intro hx;apply hn;unfold gA;rw[An];rw[Ac,Aa];rintro⟨_,h2⟩;exact hx (xn h2).1
 generalize gA (gE (fP c m now) r now) now=f at ht he hf⊢
 unfold fP iz at hf⊢;simp only[he,wR ht,hr,BB]at hf⊢;split
 . rfl
 . rename_i hc;rw[An hc]at hf;exact We ht (uC hr) hf
theorem SG {c:ar} {m m':aN} {now:Int} {r:bG} (hr:ir (fG m)=true) (he:fG m'=(fG m).map (gA (gE (fP c m now) r now) now)) (hm:fZ c false r now=0):
   jo (cB c false m' r now).1=jo (cB c false m r now).1/\(cB c false m' r now).2=0/\dZ m' now (cB c false m' r now).1=[]:=by
 have ht:=yn (gE (fP c m now) r now) now;have hs:=Sj hr he;unfold cB;rw[Al hm,Al hm];dsimp only;rw[hs,Wm ht,Wn ht];refine⟨rfl,rfl,?_⟩;unfold dZ;rw[List.map_eq_nil_iff,DI];intro x hx;obtain⟨y,hy,rfl⟩:=Aw.1 hx;unfold gA;split
 . simp[eY,nY]
 . rename_i hc;simpa [hy]using hc
end Go.Proofs
namespace Go.Proofs
open Go Go.Am Go.RowKit Go.Sy Go.Gm Go.Maps Go.Sort Go.Shelf
section
section
variable [Inhabited aF]
def ig (i:Nat) (d:aY):ae:=⟨⟨63,1048576,(i:Int)+1⟩,⟨4398046511104,i,63⟩,d.kind,d.item.key,d.item.aa,d.over⟩
def ll (l:List aq):Prop:=∀x∈l,¬(x.dev=63/\x.inc=1048576)
structure gW (m:aN) (D:List aY) (i:Nat) (x:aN):Prop where
 kept:∀e,e∈x.kept↔e∈m.kept\/ ∃j,∃h:j<D.length,j<i/\e=ig j D[j]
 dead:∀d,d∈x.dead↔d∈m.dead\/ ∃j,∃h:j<D.length,j<i/\d∈D[j].over
 seq:getM x.ctx 63 1048576=i
 len:x.kept.length=m.kept.length+i
theorem getM_none {l:List aq} (h:ll l):getM l 63 1048576=0:=by
 unfold getM
 cases e:l.find? (fun x=>gf x 63 1048576)with
 |none=>rfl
 |some y=>
  exfalso;have h1:=List.find?_some e;have h2:=Er e;refine h y h2 ?_;simpa [gf]using h1
theorem gW.start {m:aN} (D:List aY) (h:ll m.ctx):gW m D 0 m:=by
 refine⟨fun e=>?_,fun d=>?_,by rw[getM_none h];rfl,rfl⟩
 . constructor
   . exact .inl
   . rintro(h|⟨j,_,hj,_⟩)
     . exact h
     . omega
 . constructor
   . exact .inl
   . rintro(h|⟨j,_,hj,_⟩)
     . exact h
     . omega
theorem gW.step {m x:aN} {D:List aY} {i:Nat} (h:gW m D i x) (hi:i<D.length) (hr:fw (ig i D[i])=true) (hl:m.kept.length+D.length<=2048):
   (dE x (ig i D[i])).2=(true,0)/\gW m D (i+1) (dE x (ig i D[i])).1:=by
 have h1:eK x.ctx (ig i D[i]).dot=false:=by
   unfold eK;show(_&&bO ((i:Int)+1) (getM x.ctx 63 1048576))=false
   rw[h.seq];have:bO ((i:Int)+1) (i:Int)=false:=by rw[ed,Ai];omega
   rw[this,DA]
 have h2:getM x.ctx (ig i D[i]).dot.dev (ig i D[i]).dot.inc+1=(ig i D[i]).dot.seq:=by
   show getM x.ctx 63 1048576+1=(i:Int)+1
   rw[h.seq]
 have h3:¬2048<=x.kept.length:=by rw[h.len];omega
 have e:dE x (ig i D[i])=(⟨gi x.ctx 63 1048576 ((i:Int)+1),eZ x.kept (ig i D[i]),dy cg (x.dead++D[i].over)⟩,true,0):=by
   unfold dE;rw[An (by simp[hr]),An (by simp[h1]),An (by simp[h2]),An h3];rfl
 rw[e];refine⟨rfl,⟨fun y=>?_,fun d=>?_,?_,?_⟩⟩
 . show y∈eZ x.kept (ig i D[i])↔_
   unfold eZ lM;rw[uV,h.kept];constructor
   . rintro((h|⟨j,hj,hj2,h⟩)|h)
     . exact .inl h
     . exact .inr ⟨j,hj,by omega,h⟩
     . exact .inr ⟨i,hi,by omega,h⟩
   . rintro(q|⟨j,hj,hj2,q⟩)
     . exact .inl (.inl q)
     . by_cases hji:j=i
       . subst hji;exact .inr q
       . exact .inl (.inr ⟨j,hj,by omega,q⟩)
 . show d∈dy cg (x.dead++D[i].over)↔_
   rw[qD,Di,h.dead];constructor
   . rintro((h|⟨j,hj,hj2,h⟩)|h)
     . exact .inl h
     . exact .inr ⟨j,hj,by omega,h⟩
     . exact .inr ⟨i,hi,by omega,h⟩
   . rintro(q|⟨j,hj,hj2,q⟩)
     . exact .inl (.inl q)
     . by_cases hji:j=i
       . subst hji;exact .inr q
       . exact .inl (.inr ⟨j,hj,by omega,q⟩)
 . show getM (gi x.ctx 63 1048576 ((i:Int)+1)) 63 1048576=_
   rw[CT,Al ⟨rfl,rfl⟩];omega
 . show(eZ x.kept (ig i D[i])).length=_
   rw[CG,h.len];omega
theorem S8 (l :List ae) {x:ae} (h:x∈(foldM l).kept):fw x=true:=by
 have key : ∀ (l:List ae) (m:aN),x∈(l.foldl (fun m e=>(dE m e).1) m).kept->x∈m.kept\/fw x=true:=by
   intro l;induction l with
   |nil=>intro m h;exact .inl h
   | cons e l ih=>
    intro m h;rcases ih _ h with h|h
    . have h:x∈(dE m e).1.kept:=h;unfold dE at h;split at h
      . exact .inl h
      . rename_i hr;split at h
        . exact .inl h
        . split at h
          . exact .inl h
          . split at h
            . exact .inl h
            . have h:x∈eZ m.kept e:=h;unfold eZ lM at h;rw[uV]at h;rcases h with h|rfl
              . exact .inl h
              . exact .inr (by simpa using hr)
    . exact .inr h
 rcases key l mM h with h|h
 . cases h
 . exact h
theorem LS {l:List aq} (h:ll l) {d:aq} (hd:eK l d=true):fg d=true/\ ¬(d.dev=63/\d.inc=1048576):=by
 unfold eK at hd;rw[Ac]at hd;refine⟨hd.1,fun hq=>?_⟩;have h1:=hd.2;rw[hq.1,hq.2,getM_none h]at h1;have h1:d.seq<=0:=by rw[ed,Aa]at h1;exact h1
 have h2:=hd.1;simp only[fg,Ac,ed,Aa]at h2;omega
theorem Uc {G:bg} {m:aN} (g:bS G m) (h:ll m.ctx) (k:aD) (hl:(kX m k).length<=64) (i:Nat):jY ⟨63,1048576,(i:Int)+1⟩ (kX m k)=true:=by
 unfold jY;rw[Ac,Aa,Aa];refine⟨hl,fun j hj=>?_⟩;have hmem:∀d∈kX m k,fg d=true/\ ¬(d.dev=63/\d.inc=1048576):=by
   intro d hd;obtain⟨e,he,rfl⟩:=Aw.1 hd;exact LS h (g.ctx e (As.1 (da.1 he).1).1)
 obtain⟨h1,h2⟩:=hmem _ (AN hj);unfold jO;rw[Ac,Ac,BJ];refine⟨⟨h1,?_⟩,?_⟩
 . by_cases h0:j=0
   . left;simp[h0]
   . right;exact AK.1 (Jj g k) (j - 1) j (by show j - 1<(kX m k).length;omega) hj (by omega)
 . rw[A0,Bool.and_eq_false_iff];left;rw[Ao,DU,Ac,BD,BD];exact h2
end
end
section
section
variable [Inhabited aF]
theorem xG {m:aN} {now:Int} {L:List ab} {j:Nat} (h:j<(dZ m now L).length):∃y∈L,eY now y=true/\(dZ m now L)[j]=mL m now y:=by
 have h1:=AN h;obtain⟨y,hy,e⟩:=Aw.1 h1;exact⟨y,(As.1 hy).1,(As.1 hy).2,e.symm⟩
theorem Zo {m:aN} {now:Int} {L:List ab} {y:ab} (hy:y∈L) (ho:eY now y=true):∃j,∃h:j<(dZ m now L).length,(dZ m now L)[j]=mL m now y:=
 AG (Aw.2 ⟨y,As.2 ⟨hy,ho⟩,rfl⟩)
theorem Ug {m:aN} {now:Int} {L:List ab} (hk:KN L) {i j:Nat} (hi:i<(dZ m now L).length) (hj:j<(dZ m now L).length) (e:(dZ m now L)[i].item.key=(dZ m now L)[j].item.key):i=j:=by
 have h1:((dZ m now L).map fun d=>d.item.key).Nodup:=by
   unfold dZ;rw[Dd];exact hk.sub AI
 have h2:=B8.1 h1;rw[Dm]at h2;have h3:=AK.1 h2;rcases Nat.lt_trichotomy i j with h|h|h
 . exact absurd e (h3 i j hi hj h)
 . exact h
 . exact absurd e.symm (h3 j i hj hi h)
theorem dH {m:aN} {k:aD} {e:ae}:e∈aX m k↔e∈m.kept/\e.kind=1/\e.dot∉m.dead/\e.key=k:=by
 rw[da];unfold gD Fl;rw[As,Ac,BD,A0,Ai,and_assoc,and_assoc]
theorem Wd {G G':bg} {m x:aN} (g:bS G m) (g':bS G' x) {k k':aD} (h:∀e,e∈aX x k↔e∈aX m k'):aX x k=aX m k':=
 sE (less:=og) (fun x=>sq _) (fun x y z=>sk) (B0 ((AI).trans AI) g'.sorted) (B0 ((AI).trans AI) g.sorted) h
theorem WB {G:bg} {m:aN} (g:bS G m) {k:aD} {e:ae} (he:e∈m.kept) (h:e.dot∈kX m k):e∈aX m k:=by
 obtain⟨e2,h2,hd⟩:=Aw.1 h;obtain⟨v,hv⟩:=(g.kept e).1 he;obtain⟨v2,hv2⟩:=(g.kept e2).1 (dH.1 h2).1;rw[hd,hv]at hv2
 cases hv2;exact h2
variable {G G':bg} {m x:aN} {now:Int} {L:List ab}
theorem LN (g:bS G m) (g':bS G' x) (h:gW m (dZ m now L) (dZ m now L).length x) {k:aD} (hk:∀y∈L,eY now y=true->y.key≠k):aX x k=aX m k:=by
 refine Wd g g' fun e=>?_
 rw[dH,dH,h.kept,h.dead];constructor
 . rintro⟨h1|⟨j,hj,_,rfl⟩,h2,h3,h4⟩
   . exact⟨h1,h2,fun q=>h3 (.inl q),h4⟩
   . obtain⟨y,hy,ho,e⟩:=xG hj;exfalso;refine hk y hy ho ?_;rw[<-h4,e];rfl
 . rintro⟨h1,h2,h3,h4⟩;refine⟨.inl h1,h2,?_,h4⟩;rintro(q|⟨j,hj,_,q⟩)
   . exact h3 q
   . obtain⟨y,hy,ho,e⟩:=xG hj;rw[e]at q;have:=WB g h1 q;exact hk y hy ho (by rw[<-h4];exact(dH.1 this).2.2.2.symm)
theorem X8 (g:bS G m) (g':bS G' x) (hL:KN L) (hc:ll m.ctx) (hd:ll m.dead) (h:gW m (dZ m now L) (dZ m now L).length x) {y:ab} (hy:y∈L) (ho:eY now y=true):
   ∃j,aX x y.key=[ig j (mL m now y)]:=by
 obtain⟨j,hj,ej⟩:=Zo (m:=m) hy ho;refine⟨j,?_⟩;refine sE (less:=og) (fun x=>sq _) (fun x y z=>sk) (B0 ((AI).trans AI) g'.sorted) (List.pairwise_singleton _ _) fun e=>?_
 rw[dH,h.kept,h.dead,Dx];constructor
 . rintro⟨h1|⟨i,hi,_,rfl⟩,h2,h3,h4⟩
   . exfalso;refine h3 (.inr ⟨j,hj,hj,?_⟩);rw[ej];exact Aw.2 ⟨e,dH.2 ⟨h1,h2,fun q=>h3 (.inl q),h4⟩,rfl⟩
   . have:i=j:=Ug hL hi hj (by rw[ej];exact h4);subst this;rw[ej]
 . rintro rfl;refine⟨.inr ⟨j,hj,hj,by rw[ej]⟩,rfl,?_,rfl⟩;rintro(q|⟨i,hi,_,q⟩)
   . exact hd _ q ⟨rfl,rfl⟩
   . obtain⟨z,_,_,ez⟩:=xG hi;rw[ez]at q;obtain⟨e2,h2,e3⟩:=Aw.1 q;have h4:=LS hc (g.ctx e2 (dH.1 h2).1);rw[e3]at h4;exact h4.2 ⟨rfl,rfl⟩
theorem uz (g:bS G m) {z:ab}:z∈fG m↔∃k,aX m k≠[]/\z=(ec m k).1.item:=by
 unfold fG;rw[Aw];constructor
 . rintro⟨e,he,rfl⟩;obtain⟨k,hk,rfl⟩:=(wz g e).1 he;exact⟨k,hk,rfl⟩
 . rintro⟨k,hk,rfl⟩;exact⟨_,(wz g _).2 ⟨k,hk,rfl⟩,rfl⟩
theorem Jb {k:aD} (hk:aX m k≠[]):(ec m k).1.item.key=k:=(dH.1 (qG hk)).2.2.2
theorem SF (g:bS G m) (g':bS G' x) (hL:KN L) (hLm:∀y∈L,y∈fG m) (hc:ll m.ctx) (hd:ll m.dead) (h:gW m (dZ m now L) (dZ m now L).length x):fG x=(fG m).map (gA L now):=by
 have hk0:=uC (wC g);have hold:∀k,aX m k≠[]->(∀y∈L,eY now y=true->y.key≠k)->gA L now (ec m k).1.item=(ec m k).1.item:=by
   intro k hk hn;unfold gA;rw[An];rw[Ac,Aa];rintro⟨h1,h2⟩;exact hn _ h2 h1 (Jb hk)
 have hnew:∀y∈L,eY now y=true->aX m y.key≠[]/\(ec m y.key).1.item=y/\aX x y.key≠[]/\(ec x y.key).1.item=nY y now:=by
   intro y hy ho;obtain⟨k,hk,e⟩:=(uz g).1 (hLm y hy);have hyk:y.key=k:=by rw[e];exact Jb hk
   subst hyk;obtain⟨j,ej⟩:=X8 g g' hL hc hd h hy ho;refine⟨hk,e.symm,by rw[ej];simp,?_⟩;unfold ec;rw[ej];rfl
 refine sE (less:=fun a b:ab=>fj a.key b.key) (fun x=>qA _) (fun x y z=>oL _ _ _) (dU.1 (wC g')) (dU.1 (by rw[wR (yn L now)];exact wC g)) fun z=>?_
 rw[uz g',Aw];constructor
 . rintro⟨k,hk,rfl⟩;by_cases hn:∀y∈L,eY now y=true->y.key≠k
   . have e:=LN g g' h hn;rw[e]at hk;refine⟨(ec m k).1.item,(uz g).2 ⟨k,hk,rfl⟩,?_⟩;rw[hold k hk hn];unfold ec;rw[e]
   . have:∃y∈L,eY now y=true/\y.key=k:=by
      apply Bk;intro hq;exact hn fun y hy ho e=>hq ⟨y,hy,ho,e⟩
     obtain⟨y,hy,ho,rfl⟩:=this;obtain⟨_,_,_,h4⟩:=hnew y hy ho;refine⟨y,hLm y hy,?_⟩;rw[h4];unfold gA;rw[Al (by rw[ho,Bq,Aa];exact hy)]
 . rintro⟨y,hy,rfl⟩;by_cases ho:eY now y=true/\y∈L
   . obtain⟨_,_,h3,h4⟩:=hnew y ho.2 ho.1;refine⟨y.key,h3,?_⟩;rw[h4];unfold gA;rw[Al (by rw[ho.1,Bq,Aa];exact ho.2)]
   . obtain⟨k,hk,rfl⟩:=(uz g).1 hy;have hn:∀y∈L,eY now y=true->y.key≠k:=by
      rintro y hyL hyo rfl;obtain⟨_,h2,_,_⟩:=hnew y hyL hyo;rw[h2]at ho;exact ho ⟨hyo,hyL⟩
     have e:=LN g g' h hn;refine⟨k,by rw[e];exact hk,?_⟩;rw[hold k hk hn];unfold ec;rw[e]
end
end
section
section
variable [Inhabited aF]
theorem V9 {G:bg} {l:List ae} (g:bS G (foldM l)) (hl:nV l) {y:ab} (hy:y∈fG (foldM l)):nX y=true/\y.key.name.length<=2000/\y.key.domain.length<=2000/\y.key.path.length<=2000/\y.aa.value.length<=2000:=by
 obtain⟨k,hk,rfl⟩:=(uz g).1 hy;have h1:=dH.1 (qG hk);have h2:=hl.2 _ (xE l h1.1);have h3:=S8 l h1.1;generalize (ec (foldM l) k).1=e at h1 h2 h3
 simp only[iV,Ac,ed,Aa,Ah]at h2;refine⟨?_,?_⟩
 . unfold fw at h3;rw[Ac]at h3;have h4:=h3.2;rw[h1.2.1]at h4;exact h4
 . show e.key.name.length<=2000/\e.key.domain.length<=2000/\e.key.path.length<=2000/\e.aa.value.length<=2000
   omega
theorem Sf {y:ab} {now:Int} (h:nX y=true) (h0:0<=now) (h1:now<=1099511627776):nX (nY y now)=true:=by
 have hw:within now 0 1099511627776=true:=by
  unfold within;rw[Ac,ed,ed,Aa,Aa];exact⟨h0,h1⟩
 simp only[nX,u7,nY,Ac]at h⊢;grind
theorem Us {G:bg} {l:List ae} (g:bS G (foldM l)) (hl:nV l) (hc:ll (foldM l).ctx) {y:ab} (hy:y∈fG (foldM l)) {now:Int} (h0:0<=now) (h1:now<=1099511627776) (ho:(kX (foldM l) y.key).length<=64) {i:Nat} (hi:i<100):
   fw (ig i (mL (foldM l) now y))=true/\iV (ig i (mL (foldM l) now y))=true:=by
 obtain⟨h2,h3,h4,h5,h6⟩:=V9 g hl hy;constructor
 . have a1:fg ⟨63,1048576,(i:Int)+1⟩=true:=by
    simp only[fg,vt,Ac,ed,Aa];omega
   have a2:mI ⟨4398046511104,i,63⟩=true:=by
    simp only[mI,within,Ac,ed,Aa];omega
   have a3:=Uc g hc y.key ho i;have a4:=Sf h2 h0 h1;unfold fw ig mL;dsimp only;rw[a1,a2,a3];exact a4
 . unfold iV ig mL nY;simp only[Ac,ed,Aa,Ah];omega
end
end
def Yw (d:aY) (v:Value):List Value:=[.int .i64 d.kind,cw d.item.key.name,cw d.item.key.domain,cw d.item.key.path,cw d.item.aa.value, .bool d.item.aa.aH, .bool d.item.aa.aR, .bool d.item.aa.aI, .bool d.item.aa.persistent, .int .i64 d.item.aa.aW, .int .i64 d.item.aa.aj, .int .i64 d.item.aa.access,v]
def qe (w:World) (l:List aY) (v:Value):Prop:=(l=[]/\ ∃a c,v= .slice a 0 c)\/ ∃b off cap arr e fz,v= .slice (some ⟨b,off,none⟩) l.length cap/\w.heap[b]? =some (.cells arr e fz)/\l.length<=cap/\off+l.length*13<=arr.size/\
 ∀i (h:i<l.length),∃u,(∀j,j<13->arr[off+i*13+j]? =(Yw l[i] u)[j]?)/\cH w l[i].over u
theorem qe.cells {w w':World} (hc:jk w w') {l:List aY} {v:Value} (h:qe w l v):qe w' l v:=by
 rcases h with h|⟨b,off,cap,arr,e,fz,h1,h2,h3,h5,h4⟩
 . exact .inl h
 . exact .inr ⟨b,off,cap,arr,e,fz,h1,hc _ _ _ _ h2,h3,h5,fun i hi=>by obtain⟨u,k1,k2⟩:=h4 i hi;exact⟨u,k1,k2.cells hc⟩⟩
theorem qe.one {w:World} {l:List aY} {v:Value} (h:qe w l v):∃a c,v= .slice a l.length c:=by
 rcases h with⟨rfl,a,c,rfl⟩|⟨b,off,cap,arr,e,fz,rfl,_⟩<;>exact⟨_,_,rfl⟩
theorem Pb [Inhabited aF] {w:World} {p:Nat->Prop} {g:Bool} {l:List aY} {v:Value} (h:Rd w p g (lx l) v):qe w l v:=by
 unfold lx at h
 cases h with
 |fu h0=>exact .inl ⟨AP.1 h0,_,_,rfl⟩
 |bP h h0 a c=>exact .inl ⟨AP.1 h0,_,_,rfl⟩
 |bh b off cap arr e fz sz u hp hb hs hl hn hc h1 h2=>
  by_cases h0:l=[]
  . subst h0;exact .inl ⟨rfl,_,_,rfl⟩
  . have hsz:sz=13:=by
     obtain⟨x,l',rfl⟩:=B9 h0;exact(hn 0 x rfl).symm
    subst hsz;refine .inr ⟨b,off,cap,arr,e,fz,rfl,hb,hc,hl,fun i hi=>?_⟩;have hx:l[i]? =some l[i]:=Ag hi;have key:∀(j:Nat) s,(aY.enc l[i])[j]? =some s->arr[off+i*13+j]? =some (u i j)/\Rd w p g s (u i j):=fun j s hs=>⟨h1 i _ j s hx hs,h2 i _ j s hx hs⟩
    refine⟨u i 12,fun j hj=>?_,xH (key 12 _ rfl).2⟩;match j,hj with
    |0,_|9,_|10,_|11,_=>rw[(key _ _ rfl).1,gZ (key _ _ rfl).2];rfl
    |1,_|2,_|3,_|4,_=>rw[(key _ _ rfl).1,nO (key _ _ rfl).2];rfl
    |5,_|6,_|7,_|8,_=>rw[(key _ _ rfl).1,qK (key _ _ rfl).2];rfl
    |12,_=>rw[(key _ _ rfl).1];rfl
    |_+13,h=>omega
section
section
variable [Inhabited aF]
theorem GN (hdr:¬(default:aF).dr) {b:Nat} {m:aN} {c:ar} {r:bG} {now:Int} {rv:Value} {w:World} (hS:cJ b m) (hf:jt c m) (hr:lB r) (hv:dF w c rv) (hw:cI w):
  Calls Tryz.prog 17 #[vB c rv, .pointer (some ⟨b,0,none⟩),jq r, .int .i64 now] w fun e w'=>∃u,e= .returned (.tuple #[u, .int .i64 (fv c false m r now).2])/\qe w' (fv c false m r now).1 u/\Below w.heap.size w w':=by
 have h:=kE bu.ok (Mo hdr) (fn:=Tryz.f17) (hfn:=by kernel_rfl) (hb:=rfl) (y:=(c,(some (b,m):Mp),r,now)) ⟨hS,hf,hr⟩ (args:=[vB c rv, .pointer (some ⟨b,0,none⟩),jq r, .int .i64 now]) (w:=w)
  (PL.cons (sX (Ck c) (L2 hv)) (PL.cons (.wp _) (PL.cons (sX (CQ r) (FC r)) (PL.cons (.int _ _) PL.nil)))) hw
 refine Calls.mono h ?_;rintro e w' ⟨v,rfl,hv,hbel,_⟩;obtain⟨u,i,rfl,hu,hi⟩:∃u i,v= .tuple #[u,i]/\Rd w' (fun _=>True) true (lx (fv c false m r now).1) u/\Rd w' (fun _=>True) true (i64 (fv c false m r now).2) i:=by
  cases hv with
  | @bA cs vs h1 h2=>
   obtain⟨l⟩:=vs;have hlen:l.length=2:=h1.symm;match l,hlen with
   |[u,i],_=>exact⟨u,i,rfl,h2 0 _ _ rfl rfl,h2 1 _ _ rfl rfl⟩
 rw[gZ hi];exact⟨u,rfl,Pb hu,hbel⟩
theorem GI (hdr:¬(default:aF).dr) {b:Nat} {m:aN} {c:ar} {r:bG} {now:Int} {rv:Value} {w:World} (hS:cJ b m) (hf:jt c m) (hr:lB r) (hv:dF w c rv) (hw:cI w):
  Calls Tryz.prog 11 #[vB c rv, .pointer (some ⟨b,0,none⟩),jq r, .int .i64 now] w fun e w'=>e= .returned (.tuple #[cw (jo (cB c false m r now).1), .int .i64 (cB c false m r now).2])/\Below w.heap.size w w':=by
 have h:=kE bu.ok (Jr hdr) (fn:=Tryz.f11) (hfn:=by kernel_rfl) (hb:=rfl) (y:=(c,(some (b,m):Mp),r,now)) ⟨hS,hf,hr⟩ (args:=[vB c rv, .pointer (some ⟨b,0,none⟩),jq r, .int .i64 now]) (w:=w)
  (PL.cons (sX (Ck c) (L2 hv)) (PL.cons (.wp _) (PL.cons (sX (CQ r) (FC r)) (PL.cons (.int _ _) PL.nil)))) hw
 refine Calls.mono h ?_;rintro e w' ⟨v,rfl,hv,hbel,_⟩;obtain⟨u,i,rfl,hu,hi⟩:∃u i,v= .tuple #[u,i]/\Rd w' (fun _=>True) true (.str (jo (cB c false m r now).1)) u/\Rd w' (fun _=>True) true (i64 (cB c false m r now).2) i:=by
  cases hv with
  | @bA cs vs h1 h2=>
   obtain⟨l⟩:=vs;have hlen:l.length=2:=h1.symm;match l,hlen with
   |[u,i],_=>exact⟨u,i,rfl,h2 0 _ _ rfl rfl,h2 1 _ _ rfl rfl⟩
 rw[gZ hi,nO hu];exact⟨rfl,hbel⟩
end
end
section
section
variable [Inhabited aF]
theorem L6 {c:ar} {m:aN} {r:bG} {now:Int} (h:(fv c false m r now).2=0):
   fZ c false r now=0/\cB c false m r now=(gE (fP c m now) r now,0)/\(fv c false m r now).1=dZ m now (gE (fP c m now) r now)/\fL (dZ m now (gE (fP c m now) r now))=true/\m.kept.length+(dZ m now (gE (fP c m now) r now)).length<=2048:=by
 have h1:(cB c false m r now).2=0:=by
   apply Bk;intro hn;unfold fv at h;rw[An hn]at h;exact hn h
 have h2:fZ c false r now=0:=by
   apply Bk;intro hn;unfold cB at h1;rw[An hn]at h1;exact hn h1
 have h3:cB c false m r now=(gE (fP c m now) r now,0):=by unfold cB;rw[Al h2]
 refine⟨h2,h3,?_⟩;unfold fv at h⊢;rw[Al h1]at h⊢;rw[h3]at h⊢;dsimp only at h⊢;split at h
 . rename_i hf;rw[Al hf];rw[Ac,Aa]at hf;exact⟨rfl,hf.1,hf.2⟩
 . cases h
variable {c:ar} {l:List ae} {r:bG} {now:Int} {G G':bg} {x:aN} {D:List aY}
theorem TE (g:bS G (foldM l)) (hl:nV l) (h30:l.length<=30) (h:(fv c false (foldM l) r now).2=0) (hD:(fv c false (foldM l) r now).1=D) (hc:ll (foldM l).ctx):
  D.length<=30/\(foldM l).kept.length+D.length<=2048/\ ∀k (hk:k<D.length),fw (ig k D[k])=true/\iV (ig k D[k])=true/\D[k].over.length<=64:=by
 obtain⟨h1,h2,h3,h4,h5⟩:=L6 h;rw[h3]at hD;subst hD;have hlen:(dZ (foldM l) now (gE (fP c (foldM l) now) r now)).length<=30:=by
  have e1:=Lx (foldM l) now (gE (fP c (foldM l) now) r now) (gE (fP c (foldM l) now) r now).length;rw[A8]at e1;have e2:=Lw (fP c (foldM l) now) r now;have e3:=(eC (c:=c) (m:=foldM l) (now:=now)).length_le;have e4:=KV (foldM l);have hb:=qE hl.2 l.length (Ad _);rw[A8]at hb;have e5:=hb.kept;omega
 refine⟨hlen,h5,fun k hk=>?_⟩;obtain⟨y,hy,ho,e⟩:=xG hk;have hov:(dZ (foldM l) now (gE (fP c (foldM l) now) r now))[k].over.length<=64:=by
  have:=AB.1 h4 _ (AN hk);exact Bw this
 have hn:0<=now/\now<=1099511627776:=by
  unfold fZ at h1;rw[An (by simp)]at h1;split at h1
  . rename_i q;exact absurd h1 q
  . split at h1
    . cases h1
    . split at h1
      . cases h1
      . omega
 rw[e]at hov⊢;obtain⟨r1,r2⟩:=Us g hl hc (eC.subset (xn hy).1) hn.1 hn.2 hov (i:=k) (by omega);exact⟨r1,r2,hov⟩
theorem VI (g:bS G (foldM l)) (hf:jt c (foldM l)) (h:(fv c false (foldM l) r now).2=0) (hD:(fv c false (foldM l) r now).1=D) (hc:ll (foldM l).ctx) (hd:ll (foldM l).dead) (g':bS G' x) (ht:gW (foldM l) D D.length x):
   jt c x/\jo (cB c false x r now).1=jo (cB c false (foldM l) r now).1/\(cB c false x r now).2=0/\(fv c false x r now).1=[]/\(fv c false x r now).2=0:=by
 obtain⟨h1,h2,h3,h4,h5⟩:=L6 h;rw[h3]at hD;subst hD;have hkn:KN (gE (fP c (foldM l) now) r now):=by
   have h2:KN (oh (fP c (foldM l) now) r now):=((uC hf.pg).sub eC).sub AI;unfold KN at h2⊢;exact((Cg _ r now).map _).nodup_iff.2 h2
 have hi:=SF g g' hkn (fun y hy=>eC.subset (xn hy).1) hc hd ht;obtain⟨e1,e2,e3⟩:=SG hf.pg hi h1;have ho:=yn (gE (fP c (foldM l) now) r now) now;refine⟨⟨hf.rules,?_,?_,?_⟩,e1,e2,?_⟩
 . rw[hi,A1];exact hf.len
 . intro z hz;rw[hi]at hz;obtain⟨y,hy,rfl⟩:=Aw.1 hz;have:=hf.names y hy;unfold tZ at this⊢;rw[ho.key,ho.same y];exact this
 . rw[hi,wR ho];exact hf.pg
 . have e4:x.kept.length<=2048:=by rw[ht.len];exact h5
   unfold fv;rw[Al e2,e3];have:(fL ([]:List aY)&&decide (x.kept.length+([]:List aY).length<=2048))=true:=by
    rw[Ac,Aa];exact⟨rfl,e4⟩
   rw[Al this];exact⟨rfl,rfl⟩
end
end
theorem Vg {n k:Nat} (h:k<n) {z:Int} (hz:z=(k:Int)+1):n - (intOf (.int .i64 z)).toNat<n - (intOf (.int .i64 (k:Int))).toNat:=by
 subst hz;simp[intOf];omega
theorem lS {w w':World} (h:jk w.drew w') {b o:Nat} {v:Value} (hb:∃arr ty fz,w.heap[b]? =some (.cells arr ty fz)) (hc:w.cell? ⟨b,o,none⟩=some v):w'.cell? ⟨b,o,none⟩=some v:=by
 obtain⟨arr,ty,fz,hb⟩:=hb;have h2:=h _ _ _ _ (show w.drew.heap[b]? =some (.cells arr ty fz)from hb);rw[cell_of hb]at hc;rw[cell_of h2];exact hc
theorem OK {c : ar} {l:List ae} {r:bG} {rv ev:Value} {now:Int} {w:World} (hr:dF w c rv) (hv:fk w l ev) (ha:∀w,Calls Tryz.prog 8 #[] w fun e w'=>e= .returned (.bool true)/\Below w.heap.size w w'):
  Calls Tryz.prog 6 #[.agg #[.int .i64 c.aS, .int .i64 c.domain, .int .i64 c.total,rv,ev],jq r, .int .i64 now] w fun e w'=>e= .returned (.bool true)/\Below w.heap.size w w':=by
 obtain⟨ra,rk,rfl⟩:=hr.one;obtain⟨sa,sc,rfl⟩:=hv.one;obtain⟨W0,hW0⟩:∃W,w.alloc (.cells #[.int .i64 c.aS, .int .i64 c.domain, .int .i64 c.total, .slice ra c.rules.length rk, .slice sa l.length sc] 27)=W:=⟨_,rfl⟩;have s0:W0.heap.size=w.heap.size+1:=by rw[<-hW0];exact Array.size_push _
 obtain⟨W,hW⟩:∃W,W0.alloc (.cells #[.string ⟨r.host.toArray⟩, .string ⟨r.path.toArray⟩, .bool r.aR, .bool r.iN] 29)=W:=⟨_,rfl⟩;have hb0:Below w.heap.size w W0:=by rw[<-hW0];exact(Below.refl _ _).alloc (Ad _) _
 have hb01:Below W0.heap.size W0 W:=by rw[<-hW];exact(Below.refl _ _).alloc (Ad _) _
 have hbW:Below w.heap.size w W:=hb0.trans (hb01.mono hb0.size);have hbb0:W0.heap[w.heap.size]? =some (.cells #[.int .i64 c.aS, .int .i64 c.domain, .int .i64 c.total, .slice ra c.rules.length rk, .slice sa l.length sc] 27 (0,0)):=by rw[<-hW0];exact World.alloc_heap_new _ _
 have hbb:W.heap[w.heap.size]? =some (.cells #[.int .i64 c.aS, .int .i64 c.domain, .int .i64 c.total, .slice ra c.rules.length rk, .slice sa l.length sc] 27 (0,0)):=(hb01.block _ (by omega)).trans hbb0;have hbr:W.heap[w.heap.size+1]? =some (.cells #[.string ⟨r.host.toArray⟩, .string ⟨r.path.toArray⟩, .bool r.aR, .bool r.iN] 29 (0,0)):=by rw[<-s0,<-hW];exact World.alloc_heap_new _ _
 have d0:=cell_of (o:=0) hbb;have d1:=cell_of (o:=1) hbb;have d2:=cell_of (o:=2) hbb;have d3:=cell_of (o:=3) hbb;have d4:=cell_of (o:=4) hbb;have q0:=cell_of (o:=0) hbr;have q1:=cell_of (o:=1) hbr;have q2:=cell_of (o:=2) hbr;have q3:=cell_of (o:=3) hbr;simp only[AJ,AQ,AZ]at d0 d1 d2 d3 d4 q0 q1 q2 q3;have hrW:=hr.cells (dS hbW);have hvW:=hv.cells (dS hbW);have hlight:=Tryz.eL (r:=r) hrW hvW;refine ID Tryz.func6 rfl ?_;simp only[Tryz.ntmps6,Bj,Bc,Bt,Nat.reduceAdd,Nat.reduceSub,Db,Da,Dl,Dg,BA,BV];refine dW.next Tryz.func6 ?_;go_wp2;show dW _ _ _ _ _ _
 refine dW.next Tryz.func6 ?_
 cases hL:Go.Proofs.eL c l r with
 |false=>
  rw[hL]at hlight;go_wp2_with (first|(go_at_call 7;refine hlight.mono ?_;rintro e w1 ⟨rfl,hb1⟩;have ha1:=ha w1)|(go_at_call 8;refine ha1.mono ?_;rintro e w2 ⟨rfl,hb2⟩))
  refine um (results_tmp rfl _ _ _) rfl ?_;exact⟨rfl,(hbW.trans (hb1.mono hbW.size)).trans (hb2.mono (Ar hbW.size hb1.size))⟩
 | true =>
  rw[hL]at hlight;have hL2:(nU c=true/\oW r=true)/\(bO (Int.ofNat l.length) 30&&l.all iV)=true:=by
   unfold Go.Proofs.eL at hL;rw[Ac,Ac]at hL;exact hL
  obtain⟨hl30,hlt⟩:= @Wg ⟨⟨True,#[]⟩⟩ l hL2.2;go_wp2_with (first|(go_at_call 7;refine hlight.mono ?_;rintro e w1 ⟨rfl,hb1⟩))
  show dW _ _ _ _ _ _
  refine dW.next Tryz.func6 ?_;have hbb1:=(hb1.block _ (Ab.1 hbb).1).trans hbb;have hbr1:=(hb1.block _ (Ab.1 hbr).1).trans hbr;have c4:=ep d4 (hb1.block _ (iI d4));have hr1:=hrW.cells (dS hb1);have hv1:=hvW.cells (dS hb1);have hmade:=QG hv1 hlt hl30;clear hlight d0 d1 d2 d3 d4 q0 q1 q2 q3 hW hW0;go_wp2_with (first|(go_at_call 9;refine hmade.mono ?_;rintro e w2 ⟨b,bk,ba,bd,bs,bv,G,u,rfl,hO,hg,⟨vc,vk,vd,rfl,hm1,hm2,hm3⟩,hb2⟩;obtain⟨ca,na,pa,rfl⟩:=hm1.one;obtain⟨ck,pk,rfl⟩:=hm2.one;obtain⟨cd,nd,pd,rfl⟩:=hm3.one;obtain⟨W1,W2,W3,e1,e2,e3,c0,f0,c1,f1,c2,f2,hbx,hbel⟩:=qzc w2 (.slice ca na pa) (.slice ck (foldM l).kept.length pk) (.slice cd nd pd)))
  show dW _ _ _ _ _ _
  have hbd:eX (foldM l) l.length:=by
   have hb:= @qE ⟨⟨True,#[]⟩⟩ l hlt.2 l.length (Ad _);rwa [A8]at hb
  have hok:lK (foldM l):= @eX.ok ⟨⟨True,#[]⟩⟩ _ _ hbd (by omega);have hO3:=hO.below hbel;have hS:=zO hO3 hg hlt;have hst12:=dS hb2;have hst:=(dS hbel);have hr3:=(hr1.cells hst12).cells hst;have hv3:=(hv1.cells hst12).cells hst;have hbb3:=(hbel.block _ (AR (Ab.1 hbb1).1 hb2.size)).trans ((hb2.block _ (Ab.1 hbb1).1).trans hbb1);have hbr3:=(hbel.block _ (AR (Ab.1 hbr1).1 hb2.size)).trans ((hb2.block _ (Ab.1 hbr1).1).trans hbr1);have hB1:Below w.heap.size w w1:=hbW.trans (hb1.mono hbW.size);have hB2:Below w.heap.size w w2:=hB1.trans (hb2.mono hB1.size);have hB3:Below w.heap.size w W3:=hB2.trans (hbel.mono hB2.size);have u1:=hm1.cells hst;have u2:=hm2.cells hst;have u3:=hm3.cells hst;have hplan:=letI:Inhabited aF:=kW W3;GN (now:=now) (uY W3) hS (CN hg hlt hl30 hL2.1.1) (wX hL2.1.2) hr3 (uN W3)
  have d0:=cell_of (o:=0) hbb3;have d1:=cell_of (o:=1) hbb3;have d2:=cell_of (o:=2) hbb3;have d3:=cell_of (o:=3) hbb3;have q0:=cell_of (o:=0) hbr3;have q1:=cell_of (o:=1) hbr3;have q2:=cell_of (o:=2) hbr3;have q3:=cell_of (o:=3) hbr3;simp only[AJ,AQ,AZ]at d0 d1 d2 d3 q0 q1 q2 q3;clear e1 e2 e3 c0 f0 c1 f1 c2 f2 c4 hmade;refine dW.next Tryz.func6 ?_;go_wp2_with (first|(go_at_call 17;refine hplan.mono ?_;rintro e w4 ⟨pv,rfl,hD,hb4⟩;obtain⟨D,hDe⟩:∃D,(fv c false (foldM l) r now).1=D:=⟨_,rfl⟩;obtain⟨E,hEe⟩:∃E,(fv c false (foldM l) r now).2=E:=⟨_,rfl⟩;rw[hDe]at hD;rw[hEe];obtain⟨pa',pc',rfl⟩:=hD.one))
  clear d0 d1 d2 d3 q0 q1 q2 q3 hplan;have k4:=dS hb4;have hs1:(foldM l).ctx.length<=30:=by have:=hbd.ctx;omega
  have hs3:(foldM l).dead.length<=3000:=by have:=hbd.dead;omega
  have hna:na=(foldM l).ctx.length:=by
   rcases u1 with⟨h,a,c,e⟩|⟨_,_,_,_,_,_,e,_⟩<;>cases e
   . rw[h];rfl
   . rfl
  have hnd:nd=(foldM l).dead.length:=by
   rcases u3 with⟨h,a,c,e⟩|⟨_,_,_,_,_,_,e,_⟩<;>cases e
   . rw[h];rfl
   . rfl
  subst hna hnd;have v1:=u1.cells k4;have v3:=u3.cells k4;have hbx4:=(hb4.block _ (Ab.1 hbx).1).trans hbx;have x0:=cell_of (o:=0) hbx4;have x2:=cell_of (o:=2) hbx4;simp only[AJ,AQ,AZ]at x0 x2;refine dW.next Tryz.func6 ?_;go_wp2;go_loopw [11] (fun i wr=>∃k:Nat,k<=(foldM l).ctx.length/\i= .int .i64 k/\wr=w4/\ ∀j (h:j<(foldM l).ctx.length),j<k->¬((foldM l).ctx[j].dev=63/\(foldM l).ctx[j].inc=1048576))
   (fun i _=>(foldM l).ctx.length - (intOf i).toNat)
  case atStart=>exact⟨0,Au _,rfl,rfl,fun j _ h=>absurd h (A3 _)⟩
  case round=>
   obtain⟨k,hk,rfl,rfl,hall⟩:=hrel;by_cases hlt2:k<(foldM l).ctx.length
   . obtain⟨bb,off,cap,arr,ty,fz,hsl,hbb,hcap,hsz,hcells⟩:=v1.resolve_left (fun h=>by rw[h.1]at hlt2;exact absurd hlt2 (A3 _));simp only[Value.slice.injEq]at hsl;obtain⟨rfl, -,rfl⟩:=hsl;obtain⟨m0,m1,m2⟩:=hcells k hlt2;have y0:=(cell_of (o:=off+k*3) hbb).trans m0;have y1:=(cell_of (o:=off+k*3+1) hbb).trans m1;have ha4:=ha wr;go_wp2_with (first|(go_at_call 8;refine ha4.mono ?_;rintro e w5 ⟨rfl,hb5⟩))
     all_goals first
      |exact⟨⟨k+1,hlt2,by go_num,trivial,fun j h hj=>by
          by_cases hjk:j=k
          . subst hjk;omega
          . exact hall j h (by omega)⟩,by simp[intOf];omega⟩
      |skip
     refine um (results_tmp rfl _ _ _) rfl ?_;exact⟨rfl,(hB3.trans (hb4.mono hB3.size)).trans (hb5.mono (Ar hB3.size hb4.size))⟩
   . have hkl : k =(foldM l).ctx.length:=by omega
     subst hkl;have hnc:ll (foldM l).ctx:=by
      intro x hx;obtain⟨j,hj,rfl⟩:=AG hx;exact hall j hj hj
     clear hall;go_wp2;show dW _ _ _ _ _ _
     refine dW.next Tryz.func6 ?_;go_wp2;go_loopw [12] (fun i wq=>∃k:Nat,k<=(foldM l).dead.length/\i= .int .i64 k/\wq=wr/\ ∀j (h:j<(foldM l).dead.length),j<k->¬((foldM l).dead[j].dev=63/\(foldM l).dead[j].inc=1048576))
      (fun i _=>(foldM l).dead.length - (intOf i).toNat)
     case atStart=>exact⟨0,Au _,rfl,rfl,fun j _ h=>absurd h (A3 _)⟩
     case round =>
      obtain⟨k,hk,rfl,rfl,hall⟩:=hrel;by_cases hlt2:k<(foldM l).dead.length
      . obtain⟨bb,off,cap,arr,ty,fz,hsl,hbb,hcap,hsz,hcells⟩:=v3.resolve_left (fun h=>by rw[h.1]at hlt2;exact absurd hlt2 (A3 _));simp only[Value.slice.injEq]at hsl;obtain⟨rfl, -,rfl⟩:=hsl;obtain⟨m0,m1,m2⟩:=hcells k hlt2;have y0:=(cell_of (o:=off+k*3) hbb).trans m0;have y1:=(cell_of (o:=off+k*3+1) hbb).trans m1;have ha4:=ha wr;go_wp2_with (first|(go_at_call 8;refine ha4.mono ?_;rintro e w5 ⟨rfl,hb5⟩))
        all_goals first
          |exact⟨⟨k+1,hlt2,by go_num,trivial,fun j h hj=>by
              by_cases hjk:j=k
              . subst hjk;omega
              . exact hall j h (by omega)⟩,by simp[intOf];omega⟩
          |skip
        refine um (results_tmp rfl _ _ _) rfl ?_;exact⟨rfl,(hB3.trans (hb4.mono hB3.size)).trans (hb5.mono (Ar hB3.size hb4.size))⟩
      . have hkl:k=(foldM l).dead.length:=by omega
        subst hkl;have hnd:ll (foldM l).dead:=by
          intro x hx;obtain⟨j,hj,rfl⟩:=AG hx;exact hall j hj hj
        clear hall;go_wp2;show dW _ _ _ _ _ _
        have hO4:=hO3.below hb4;have hS4:=zO hO4 hg hlt;have hr4:=hr3.cells k4;have hbb4:=(hb4.block _ (Ab.1 hbb3).1).trans hbb3;have hbr4:=(hb4.block _ (Ab.1 hbr3).1).trans hbr3;have hB4:Below w.heap.size w wr:=hB3.trans (hb4.mono hB3.size);refine dW.next Tryz.func6 ?_;by_cases hE:E=0
        . subst hE;have d0:=cell_of (o:=0) hbb4;have d1:=cell_of (o:=1) hbb4;have d2:=cell_of (o:=2) hbb4;have d3:=cell_of (o:=3) hbb4;have q0:=cell_of (o:=0) hbr4;have q1:=cell_of (o:=1) hbr4;have q2:=cell_of (o:=2) hbr4;have q3:=cell_of (o:=3) hbr4;simp only[AJ,AQ,AZ]at d0 d1 d2 d3 q0 q1 q2 q3;have hfo:=CN hg hlt hl30 hL2.1.1;have hhead:=letI:Inhabited aF:=kW wr;GI (now:=now) (uY wr) hS4 hfo (wX hL2.1.2) hr4 (uN wr)
          go_wp2;show dW _ _ _ _ _ _
          refine dW.next Tryz.func6 ?_;go_wp2_with (first|(go_at_call 11;refine hhead.mono ?_;rintro e w5 ⟨rfl,hb5⟩))
          clear d0 d1 d2 d3 q0 q1 q2 q3 hhead;show dW _ _ _ _ _ _
          refine dW.next Tryz.func6 ?_;have k5:=dS hb5;have hD5:=hD.cells k5;obtain⟨hD30,hfit,hev⟩:=letI:Inhabited aF:=kW wr;TE hg hlt hl30 hEe hDe hnc
          have hO5:=hO4.below hb5;have hB5:Below w.heap.size w w5:=hB4.trans (hb5.mono hB4.size);have hn1:w.heap.size<=w1.heap.size:=hB1.size;have hn5:w1.heap.size<=w5.heap.size:=by
            have a2:=hb2.size;have a3:=hbel.size;have a4:=hb4.size;have a5:=hb5.size;omega
          have hbb5:=(hb5.block _ (Ab.1 hbb4).1).trans hbb4;have hbr5:=(hb5.block _ (Ab.1 hbr4).1).trans hbr4;have hr5:=hr4.cells k5;have hov0:∀e∈(foldM l).kept,e.over.length<=100000:=fun e he=>by
            have:=(@sC ⟨⟨True,#[]⟩⟩ _ (hlt.2 e (letI:Inhabited aF:=⟨⟨True,#[]⟩⟩;xE l he))).2;omega
          have ht0:=letI:Inhabited aF:=kW wr;gW.start D hnc
          clear hbb hbb0 hbb1 hbb3 hbr hbr1 hbr3 hr1 hr3 hrW hv hv1 hv3 hvW hm1 hm2 hm3 hbx hbx4 u1 u2 u3 v1 v3 x0 x2 hS hS4 hO hO3 hst hst12;obtain⟨wA,hwA⟩:∃wA,wA=wr:=⟨_,rfl⟩;subst hwA;go_wp2;go_loopw [15] (fun i wq=>∃(k:Nat) (x:aN) (G':bg),k<=D.length/\i= .int .i64 k/\cK wq w1.heap.size b bk ba bd bs bv G'/\bS G' x/\gW (foldM l) D k x/\eX x (l.length+k)/\(∀e∈x.kept,e.over.length<=100000)/\jk w5 wq/\Below w1.heap.size w5 wq)
            (fun i _=>D.length - (intOf i).toNat)
          case atStart=>exact⟨0,foldM l,G,Au _,rfl,hO5,hg,ht0,hbd,hov0,fun _ _ _ _ h=>h,(Below.refl _ _).mono hn5⟩
          case round=>
            obtain⟨k,x,G',hk,rfl,hOr,hgr,htr,hbdr,hovr,hcr,hbr'⟩:=hrel;have hDr:=hD5.cells hcr;by_cases hlt2:k<D.length
            . obtain⟨bb,off,cap,arr,ty,fz,hsl,hbb,hcap,hsz,hcells⟩:=hDr.resolve_left (fun h=>by rw[h.1]at hlt2;exact absurd hlt2 (A3 _));simp only[Value.slice.injEq]at hsl;obtain⟨rfl, -,rfl⟩:=hsl;obtain⟨u,hcu,hdu⟩:=hcells k hlt2;obtain⟨hri,hli,hoi⟩:=hev k hlt2;have hstep:=letI:Inhabited aF:=kW w5;gW.step htr hlt2 hri hfit
              obtain⟨hsm,hov⟩:= @sC ⟨⟨True,#[]⟩⟩ _ hli;have hnr:w1.heap.size<=wr.heap.size:=Ar hn5 hbr'.size;have hbdr':Below wr.heap.size wr wr.drew:=(Below.refl _ _).drew;have happ:=Tryz.apply (hOr.below hbdr') hgr (Ar hnr hbdr'.size) (e:=ig k D[k]) (u:=gT (ig k D[k]) u) ⟨u,rfl,hdu.cells (dS hbdr')⟩ hsm (by omega) (letI:Inhabited aF:=⟨⟨True,#[]⟩⟩;hbdr.ok (by omega));have hbdn:=letI:Inhabited aF:=⟨⟨True,#[]⟩⟩;IT (e:=ig k D[k]) hbdr hov
              have hval:gT (ig k D[k]) u= .agg #[.int .i64 63, .int .i64 1048576, .int .i64 ((k:Int)+1), .int .i64 4398046511104, .int .i64 k, .int .i64 63, .int .i64 D[k].kind,cw D[k].item.key.name,cw D[k].item.key.domain,cw D[k].item.key.path,cw D[k].item.aa.value, .bool D[k].item.aa.aH, .bool D[k].item.aa.aR, .bool D[k].item.aa.aI, .bool D[k].item.aa.persistent, .int .i64 D[k].item.aa.aW, .int .i64 D[k].item.aa.aj, .int .i64 D[k].item.aa.access,u]:=rfl;rw[hval]at happ;obtain⟨ev,hev'⟩:∃ev,ig k D[k]=ev:=⟨_,rfl⟩;rw[hev']at happ hstep hbdn hov;obtain⟨hap2,htn⟩:=hstep;have ho1:(dE x ev).2.1=true:=by rw[hap2]
              have ho2:(dE x ev).2.2=0:=by rw[hap2]
              rw[ho1,ho2]at happ;have hwr2:IntKind.i64.wrap ((k:Int)+1)=(k:Int)+1:=(OB (by omega)).2;have hwr:wrap64 ((k:Int)+1)=(k:Int)+1:=IntWalk.wrap64_in _ (by omega);have z0:wr.cell? ⟨bb,off+k*13,none⟩=some (.int .i64 D[k].kind):=(cell_of hbb).trans (hcu 0 (by omega));have z1:wr.cell? ⟨bb,off+k*13+1,none⟩=some (cw D[k].item.key.name):=(cell_of hbb).trans (hcu 1 (by omega));have z2:wr.cell? ⟨bb,off+k*13+2,none⟩=some (cw D[k].item.key.domain):=(cell_of hbb).trans (hcu 2 (by omega));have z3:wr.cell? ⟨bb,off+k*13+3,none⟩=some (cw D[k].item.key.path):=(cell_of hbb).trans (hcu 3 (by omega));have z4:wr.cell? ⟨bb,off+k*13+4,none⟩=some (cw D[k].item.aa.value):=(cell_of hbb).trans (hcu 4 (by omega));have z5:wr.cell? ⟨bb,off+k*13+5,none⟩=some (.bool D[k].item.aa.aH):=(cell_of hbb).trans (hcu 5 (by omega));have z6:wr.cell? ⟨bb,off+k*13+6,none⟩=some (.bool D[k].item.aa.aR):=(cell_of hbb).trans (hcu 6 (by omega));have z7:wr.cell? ⟨bb,off+k*13+7,none⟩=some (.bool D[k].item.aa.aI):=(cell_of hbb).trans (hcu 7 (by omega));have z8:wr.cell? ⟨bb,off+k*13+8,none⟩=some (.bool D[k].item.aa.persistent):=(cell_of hbb).trans (hcu 8 (by omega));have z9:wr.cell? ⟨bb,off+k*13+9,none⟩=some (.int .i64 D[k].item.aa.aW):=(cell_of hbb).trans (hcu 9 (by omega));have z10:wr.cell? ⟨bb,off+k*13+10,none⟩=some (.int .i64 D[k].item.aa.aj):=(cell_of hbb).trans (hcu 10 (by omega));have z11:wr.cell? ⟨bb,off+k*13+11,none⟩=some (.int .i64 D[k].item.aa.access):=(cell_of hbb).trans (hcu 11 (by omega));have z12:wr.cell? ⟨bb,off+k*13+12,none⟩=some u:=(cell_of hbb).trans (hcu 12 (by omega));have hovn:∀e∈(dE x ev).1.kept,e.over.length<=100000:=by
                intro e he;rcases(htn.kept e).1 he with h|⟨j,hj,_,rfl⟩
                . exact hov0 e h
                . have:=(hev j hj).2.2;show D[j].over.length<=100000
                  omega
              obtain⟨ua,ul,uc,rfl⟩:=hdu.one;have hob:∃arr ty fz,wr.heap[bb]? =some (.cells arr ty fz):=⟨_,_,_,hbb⟩;clear hbb hcu hdu hOr hgr htr hbdr hovr hap2 ho1 ho2 hri hli hval;go_wp2;go_region_held3 (fun w'=>w'.cell? ⟨bb,off+k*13,none⟩=some (.int .i64 D[k].kind)/\w'.cell? ⟨bb,off+k*13+1,none⟩=some (cw D[k].item.key.name)/\w'.cell? ⟨bb,off+k*13+2,none⟩=some (cw D[k].item.key.domain)/\w'.cell? ⟨bb,off+k*13+3,none⟩=some (cw D[k].item.key.path)/\w'.cell? ⟨bb,off+k*13+4,none⟩=some (cw D[k].item.aa.value)/\w'.cell? ⟨bb,off+k*13+5,none⟩=some (.bool D[k].item.aa.aH)/\w'.cell? ⟨bb,off+k*13+6,none⟩=some (.bool D[k].item.aa.aR)/\w'.cell? ⟨bb,off+k*13+7,none⟩=some (.bool D[k].item.aa.aI)/\w'.cell? ⟨bb,off+k*13+8,none⟩=some (.bool D[k].item.aa.persistent)/\w'.cell? ⟨bb,off+k*13+9,none⟩=some (.int .i64 D[k].item.aa.aW)/\w'.cell? ⟨bb,off+k*13+10,none⟩=some (.int .i64 D[k].item.aa.aj)/\w'.cell? ⟨bb,off+k*13+11,none⟩=some (.int .i64 D[k].item.aa.access)/\w'.cell? ⟨bb,off+k*13+12,none⟩=some (.slice ua ul uc)) (simp[*]) (first|(go_at_call 23;refine happ.mono ?_;rintro e wn ⟨rfl,hbn,hcn,G2,hO2,hg2⟩;have n0:=lS hcn hob z0;have n1:=lS hcn hob z1;have n2:=lS hcn hob z2;have n3:=lS hcn hob z3;have n4:=lS hcn hob z4;have n5:=lS hcn hob z5;have n6:=lS hcn hob z6;have n7:=lS hcn hob z7;have n8:=lS hcn hob z8;have n9:=lS hcn hob z9;have n10:=lS hcn hob z10;have n11:=lS hcn hob z11;have n12:=lS hcn hob z12))
              go_wp2;exact⟨⟨k+1,_,G2,hlt2,by go_num,hO2,hg2,htn,hbdn,hovn,fun _ _ _ _ h=>hcn _ _ _ _ (hcr _ _ _ _ h),(hbr'.trans (hbdr'.mono hnr)).trans hbn⟩,Vg hlt2 (by first|rfl|exact hwr)⟩
            . have hkl:k=D.length:=by omega
              subst hkl;obtain⟨hfx,hx1,hx2,hx3,hx4⟩:=letI:Inhabited aF:=kW w5;VI hg hfo hEe hDe hnc hnd hgr htr
              have hokx:lK x:=letI:Inhabited aF:=⟨⟨True,#[]⟩⟩;hbdr.ok (by omega)
              have hSx:=Ch hOr hgr hokx hovr;have hrx:=hr5.cells hcr;have hbbx:=hcr _ _ _ _ hbb5;have hbrx:=hcr _ _ _ _ hbr5;have d0:=cell_of (o:=0) hbbx;have d1:=cell_of (o:=1) hbbx;have d2:=cell_of (o:=2) hbbx;have d3:=cell_of (o:=3) hbbx;have q0:=cell_of (o:=0) hbrx;have q1:=cell_of (o:=1) hbrx;have q2:=cell_of (o:=2) hbrx;have q3:=cell_of (o:=3) hbrx;simp only[AJ,AQ,AZ]at d0 d1 d2 d3 q0 q1 q2 q3;have hhead2:=letI:Inhabited aF:=kW wr;GI (now:=now) (uY wr) hSx hfx (wX hL2.1.2) hrx (uN wr)
              rw[hx1,hx2]at hhead2;obtain⟨tx,htx⟩:∃tx,jo (cB c false (foldM l) r now).1=tx:=⟨_,rfl⟩;rw[htx]at hhead2⊢;have hB6:Below w.heap.size w wr:=hB5.trans (hbr'.mono hn1);clear htr hev hcr hD5 hDr;go_wp2;show dW _ _ _ _ _ _
              refine dW.next Tryz.func6 ?_;go_wp2_with (first|(go_at_call 11;refine hhead2.mono ?_;rintro e w6 ⟨rfl,hb6⟩))
              clear d0 d1 d2 d3 q0 q1 q2 q3 hhead2;have hO6:=hOr.below hb6;have hS6:=Ch hO6 hgr hokx hovr;have k6:=dS hb6;have hr6:=hrx.cells k6;have hbb6:=k6 _ _ _ _ hbbx;have hbr6:=k6 _ _ _ _ hbrx;have d0:=cell_of (o:=0) hbb6;have d1:=cell_of (o:=1) hbb6;have d2:=cell_of (o:=2) hbb6;have d3:=cell_of (o:=3) hbb6;have q0:=cell_of (o:=0) hbr6;have q1:=cell_of (o:=1) hbr6;have q2:=cell_of (o:=2) hbr6;have q3:=cell_of (o:=3) hbr6;simp only[AJ,AQ,AZ]at d0 d1 d2 d3 q0 q1 q2 q3;have hplan2:=letI:Inhabited aF:=kW w6;GN (now:=now) (uY w6) hS6 hfx (wX hL2.1.2) hr6 (uN w6)
              rw[hx3,hx4]at hplan2;show dW _ _ _ _ _ _
              refine dW.next Tryz.func6 ?_;go_wp2_with (first|(go_at_call 17;refine hplan2.mono ?_;rintro e w7 ⟨pv2,rfl,hD2,hb7⟩;obtain⟨pa2,pc2,rfl⟩:=hD2.one))
              clear d0 d1 d2 d3 q0 q1 q2 q3 hplan2;show dW _ _ _ _ _ _
              refine dW.next Tryz.func6 ?_;have ha7:=ha w7;have hB7:Below w.heap.size w w7:=(hB6.trans (hb6.mono hB6.size)).trans (hb7.mono (Ar hB6.size hb6.size));go_wp2_with (first|(go_at_call 8;refine ha7.mono ?_;rintro e w8 ⟨rfl,hb8⟩))
              show dW _ _ _ _ _ _
              refine dW.code Tryz.func6 ?_;go_wp2;refine um (results_tmp rfl _ _ _) rfl ?_;exact⟨rfl,hB7.trans (hb8.mono hB7.size)⟩
        . have hD0:D=[]:=by
            rw[<-hDe];rw[<-hEe]at hE;unfold fv at hE⊢;split
            . rename_i h1;rw[Al h1]at hE;split
              . rename_i h2;rw[Al h2]at hE;exact absurd rfl hE
              . rfl
            . rfl
          subst hD0;have ha4:=ha wr;go_wp2_with (first|(go_at_call 8;refine ha4.mono ?_;rintro e w5 ⟨rfl,hb5⟩))
          refine um (results_tmp rfl _ _ _) rfl ?_;exact⟨rfl,hB4.trans (hb5.mono hB4.size)⟩
end Go.Proofs
