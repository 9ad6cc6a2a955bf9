/- Part 12: an evaluator, proved sound, and its use at this seat; no condition. -/
import Derived.KernelRfl
import Derived.WalkKit
import Derived.LoopTactic
import Derived.Test.YtcnemjkdbaicnaaGreatP6
import Derived.Test.YtcnemjkdbaicnaaGreatP9
import Derived.Test.YtcnemjkdbaicnaaGreatP11
set_option linter.unusedSimpArgs false
set_option linter.unusedVariables false
set_option linter.unusedSectionVars false
set_option linter.deprecated false
set_option maxRecDepth 100000
set_option maxHeartbeats 40000000
namespace Go.Proofs
open Go Go.Am Go.RowKit Go.Sy
section
variable [Inhabited aK]
theorem qxZ {c:ar} {l:List ab} {now:Int} (h:eV c≠0):iu (c,l,now)=([],eV c):=by grind [iu]
theorem Rr {c:ar} {l:List ab} {now:Int} (h:eV c=0) (hr:jD l=true):iu (c,l,now)=(mL (aN c) (fC c) l now,0):=by grind [iu]
theorem XQ {c:ar} (h:eV c=0):1<=c.domain/\1<=c.total:=by
 grind [eV]
theorem qyU (hG:∀g C,z8 g=some C->CO g C):CO Is Hm:=bB (cfg:=fun y=>bE z8 (cR y)) bh (fun _=>rfl) (fun _=>hG) (n:=400) (by
 rw[qzz];rintro⟨c,l,now⟩ ⟨hr,hl⟩;exact⟨(c,l,now),rfl,rfl,rfl,rfl,rfl,rfl,⟨hr,hl⟩,rfl,trivial⟩)
theorem ZR (hG:∀g C,rK g=some C->CO g C):∀g C,z8 g=some C->CO g C:=bg (Re (N6 hG)) (N6 hG)
end
end Go.Proofs
namespace Go.Proofs
open Go Go.Am Go.RowKit Go.Sy Go.Gm Go.Maps Go.Sort Go.Shelf
section
abbrev I7 (c:ar) (m:aP) (now:Int):List ab×Int:=Qj (c,iH m,now)
def RD (c:ar) (m:aP) (now:Int):List bD:=ZW (ui m (I7 c m now).1)
section
variable [Inhabited aK]
theorem uZ (hdr:¬(default:aK).dr):∀g C,rK g=some C->CO g C:=bg (WR hdr) (bg (QW hdr) Ns)
structure purgeOk (c:ar) (m:aP) (now:Int):Prop where
 rules:pv c
 kG:(iH m).length<=10000
 short:zq (iH m)
 cK:(ui m (I7 c m now).1).length<=10000
 one:m.kept.length<=2000
 room:m.kept.length+(RD c m now).length<=2048
end
end
end Go.Proofs
namespace Go.Proofs
open Go Go.Am Go.RowKit Go.Sy
section
def fL (c:ar) (m:aP) (now:Int):List ab:=(iu (c,iH m,now)).1
def gB (c:ar) (nil:Bool) (r:bG) (now:Int):Int:=if nil then 17 else if eV c≠0 then eV c else if fD r=false then 1 else if now<0\/1099511627776<now then 4 else 0
def bF (c:ar) (nil:Bool) (m:aP) (r:bG) (now:Int):List ab×Int:=if gB c nil r now=0 then(kK (fL c m now) r now,0)else([],gB c nil r now)
def CJ (x:ab):Prop:=x.key.name.length<=2000/\x.key.domain.length<=100000/\x.key.path.length<=100000/\x.aa.value.length<=2000
structure ib (c:ar) (m:aP):Prop where
 rules:pv c
 len:(iH m).length<=30
 names:∀x∈iH m,CJ x
 rR:jD (iH m)=true
theorem dX {c:ar} {m:aP} {now:Int}:(fL c m now).Sublist (iH m):=by
 grind [fL,iu,qvg]
theorem ib.pick {c:ar} {m:aP} (h:ib c m) {r:bG} (hr:jF r) (now:Int):u4 (fL c m now) r:=by
 have hs:=dX (c:=c) (m:=m) (now:=now);refine⟨by have:=hs.length_le;have:=h.len;omega,(FR h.rR).sub hs,fun x hx=>?_,hr⟩;have:=h.names x (hs.subset hx);exact⟨this.2.1,this.2.2.1⟩
theorem FO (l:List ab) (r:bG) (now:Int):(kK l r now).Perm (mM l r now):=by
 have:=Fh (mM l r now) [];rwa [Br]at this
theorem Oy {l:List ab} {r:bG} {now:Int} {x:ab} (h:x∈kK l r now):x∈l/\jw x r now=true:=AB.1 ((FO l r now).mem_iff.1 h)
theorem qvY (l:List ab) (r:bG) (now:Int):(kK l r now).length<=l.length:=by
 rw[(FO l r now).length_eq];exact AZ _ _
theorem ib.items {c:ar} {m:aP} (h:ib c m) (nil:Bool) (r:bG) (now:Int):(bF c nil m r now).1.length<=30/\ ∀x∈(bF c nil m r now).1,x∈iH m:=by
 have hs:=dX (c:=c) (m:=m) (now:=now);unfold bF;split
 . refine⟨?_,fun x hx=>hs.subset (Oy hx).1⟩;have h1:=qvY (fL c m now) r now;have h2:=hs.length_le;have h3:=h.len;grind
 grind
theorem ib.IX {c:ar} {m:aP} (h:ib c m) (nil:Bool) (r:bG) (now:Int):Ju (bF c nil m r now).1:=by
 obtain⟨h1,h2⟩:=h.items nil r now;refine⟨by omega,fun x hx=>?_⟩;have:=h.names x (h2 x hx);exact⟨this.1,this.2.2.2⟩
section
variable [Inhabited aK]
noncomputable def tO (f:FuncId):Option aL:=bif Nat.beq f Is then some Hm else bif Nat.beq f qd then some GJ else bif Nat.beq f pT then some qp else bif Nat.beq f pV then some qp else bif Nat.beq f KI then some oW else bif Nat.beq f Kc then some oW else bif Nat.beq f II then some zU else bif Nat.beq f Ih then some zU else bif Nat.beq f IJ then some wu else bif Nat.beq f p9 then some wu else bif Nat.beq f kP then some zm else bif Nat.beq f pU then some GI else bif Nat.beq f lB then some wm else bu f
theorem vK (hdr:¬(default:aK).dr):∀f C,tO f=some C->CO f C:=bg (qyU (ZR (uZ hdr))) (bg (Ot hdr) (bg Oo (bg Mn (bg (Sb (Sw hdr)) (bg QO (bg (Ri hdr) (bg (qyN hdr) (bg (qy3 hdr) (bg Pf (bg (Pb (uZ hdr)) (bg Oq (bg G8 eX))))))))))))
def zo:aL:={Y:=ar×Mp×Int,pre:=fun y=>y.2.1.at/\ib y.1 y.2.1.m,args:=fun y=>[.agg y.1.enc,y.2.1.arg,i64 y.2.2],res:=fun y=>items (fL y.1 y.2.1.m y.2.2)}
theorem G9 (hdr:¬(default:aK).dr):CO pY zo:=bB (cfg:=fun(_:ar×Mp×Int)=>bL tO (fun _ _=>none)) bh (fun _=>rfl) (fun _=>vK hdr) (n:=500) (by
 rintro⟨c,m,now⟩ ⟨h1,h2⟩;have h1:m.at:=h1;have h2:ib c m.m:=h2
 cases m with
 |none=>
  refine⟨(none:Mp),?_⟩
  repeat first|refine⟨rfl,?_⟩|refine⟨trivial,?_⟩
  refine⟨(c,iH ⟨[],[],[]⟩,now),?_⟩
  repeat first|refine⟨rfl,?_⟩|refine⟨trivial,?_⟩
  refine⟨⟨h2.rules,by show(iH ⟨[],[],[]⟩).length<=10000;have:(iH ⟨[],[],[]⟩).length<=30:=h2.len;omega,fun x hx=>by have:=(h2.names x hx).2.1;omega⟩,?_⟩
  repeat' first|exact trivial|exact rfl|refine ax (fun _=>?_) fun _=>?_|apply And.intro
 |some y=>
  refine⟨(some y:Mp),?_⟩
  repeat first|refine⟨rfl,?_⟩|refine⟨trivial,?_⟩
  refine⟨h1,?_⟩;refine⟨(c,iH y.2,now),?_⟩
  repeat first|refine⟨rfl,?_⟩|refine⟨trivial,?_⟩
  refine⟨⟨h2.rules,by show(iH y.2).length<=10000;have:(iH y.2).length<=30:=h2.len;omega,fun x hx=>by have:=(h2.names x hx).2.1;omega⟩,?_⟩
  repeat' first|exact trivial|exact rfl|refine ax (fun _=>?_) fun _=>?_|apply And.intro)
def um:aL:={Y:=ar×Mp×bG×Int,pre:=fun y=>pv y.1/\jF y.2.2.1,args:=fun y=>[.agg y.1.enc,y.2.1.arg, .agg y.2.2.1.enc,i64 y.2.2.2],res:=fun y=>i64 (gB y.1 y.2.1.isNone y.2.2.1 y.2.2.2)}
theorem R8 (hdr:¬(default:aK).dr):CO KG um:=bB (cfg:=fun(_:ar×Mp×bG×Int)=>bL tO (fun _ _=>none)) bh (fun _=>rfl) (fun _=>vK hdr) (n:=500) (by
 rintro⟨c,m,r,now⟩ ⟨h1,h2⟩;have h1:pv c:=h1;have h2:jF r:=h2
 cases m with
 |none=>repeat' first|exact trivial|exact rfl|refine ax (fun _=>?_) fun _=>?_|apply And.intro
 |some y=>
  have fin:∀v:Int,v=gB c false r now->aq v (gB c (Option.isNone (some y)) r now):=fun v h=>h
  refine⟨c,?_⟩
  repeat first|refine⟨rfl,?_⟩|refine⟨trivial,?_⟩
  refine⟨h1,?_⟩;refine ax (fun h=>?_) fun h=>?_
  . have h:(!(eV c==0))=true:=h;refine⟨fin _ ?_,trivial⟩;grind [gB]
  have h:(!(eV c==0))=false:=h;have h:eV c=0:=by grind
  have e1:gB c false r now=if fD r=false then 1 else if now<0\/1099511627776<now then 4 else 0:=by
    grind [gB]
  refine⟨r,?_⟩
  repeat first|refine⟨rfl,?_⟩|refine⟨trivial,?_⟩
  refine⟨h2,?_⟩;refine ax (fun u=>?_) fun u=>?_
  . have u:(!fD r)=true:=u;refine⟨fin _ ?_,trivial⟩;rw[e1,An (by grind)]
  have u:(!fD r)=false:=u;rw[Al (by grind)]at e1;refine ax (fun a=>?_) fun a=>?_
  . have a:aZ now 0=true:=a;rw[bM,Aa]at a;refine⟨fin _ ?_,trivial⟩;rw[e1,An (.inl a)]
  have a:aZ now 0=false:=a;rw[bM,Ah]at a;refine ax (fun b=>?_) fun b=>?_
  . have b:aZ 1099511627776 now=true:=b;rw[bM,Aa]at b;refine⟨fin _ ?_,trivial⟩;rw[e1,An (.inr b)]
  . have b:aZ 1099511627776 now=false:=b;rw[bM,Ah]at b;refine⟨fin _ ?_,trivial⟩;rw[e1,Al (by omega)])
noncomputable def HU (f:FuncId):Option aL:=bif Nat.beq f pY then some zo else bif Nat.beq f KG then some um else tO f
theorem Nw (hdr:¬(default:aK).dr):∀f C,HU f=some C->CO f C:=bg (G9 hdr) (bg (R8 hdr) (vK hdr))
def lW (y:ar×Mp×bG×Int):Prop:=y.2.1.at/\ib y.1 y.2.1.m/\jF y.2.2.1
def vG:aL:={Y:=ar×Mp×bG×Int,pre:=lW,args:=fun y=>[.agg y.1.enc,y.2.1.arg, .agg y.2.2.1.enc,i64 y.2.2.2],res:=fun y=> .bO [items (bF y.1 y.2.1.isNone y.2.1.m y.2.2.1 y.2.2.2).1,i64 (bF y.1 y.2.1.isNone y.2.1.m y.2.2.1 y.2.2.2).2]}
theorem x7 (hdr:¬(default:aK).dr):CO nQ vG:=bB (cfg:=fun(_:ar×Mp×bG×Int)=>bL HU (fun _ _=>none)) bh (fun _=>rfl) (fun _=>Nw hdr) (n:=500) (by
 rintro⟨c,m,r,now⟩ ⟨h1,h2,h3⟩;have h1:m.at:=h1;have h2:ib c m.m:=h2;have h3:jF r:=h3
 cases m with
 |none=>
  have e:bF c (Option.isNone (none:Mp)) (Mp.m none) r now=([],17):=rfl;refine⟨(c,(none:Mp),r,now),?_⟩
  repeat first|refine⟨rfl,?_⟩|refine⟨trivial,?_⟩
  refine⟨⟨h2.rules,h3⟩,?_⟩
  (conv=>whnf)
  repeat' first|exact trivial|exact rfl|refine ax (fun _=>?_) fun _=>?_|apply And.intro
 |some y=>
  refine⟨(c,(some y:Mp),r,now),?_⟩
  repeat first|refine⟨rfl,?_⟩|refine⟨trivial,?_⟩
  refine⟨⟨h2.rules,h3⟩,?_⟩;refine ax (fun h=>?_) fun h=>?_
  . have h:(!(gB c false r now==0))=true:=h;have e:bF c false y.2 r now=([],gB c false r now):=by grind [bF]
    refine⟨?_,?_⟩
    . grind [bF]
    refine⟨?_,trivial⟩;grind [bF]
  . have h:(!(gB c false r now==0))=false:=h;have e:bF c false y.2 r now=(kK (fL c y.2 now) r now,0):=by grind [bF]
    refine⟨(c,(some y:Mp),now),?_⟩
    repeat first|refine⟨rfl,?_⟩|refine⟨trivial,?_⟩
    refine⟨⟨h1,h2⟩,?_⟩;refine⟨(fL c y.2 now,r,now),?_⟩
    repeat first|refine⟨rfl,?_⟩|refine⟨trivial,?_⟩
    refine⟨h2.pick h3 now,?_⟩;refine⟨?_,?_⟩
    . show items (kK (fL c y.2 now) r now)=items (bF c false y.2 r now).1
      rw[e]
    refine⟨?_,trivial⟩;grind [bF])
def Fu:aL:={Y:=ar×Mp×bG×Int,pre:=lW,args:=fun y=>[.agg y.1.enc,y.2.1.arg, .agg y.2.2.1.enc,i64 y.2.2.2],res:=fun y=> .bO [.str (iW (bF y.1 y.2.1.isNone y.2.1.m y.2.2.1 y.2.2.2).1),i64 (bF y.1 y.2.1.isNone y.2.1.m y.2.2.1 y.2.2.2).2]}
noncomputable def Jy (f:FuncId):Option aL:=bif Nat.beq f nQ then some vG else HU f
theorem Zt (hdr:¬(default:aK).dr):∀f C,Jy f=some C->CO f C:=bg (x7 hdr) (Nw hdr)
theorem L7 (hdr:¬(default:aK).dr):CO sA Fu:=bB (cfg:=fun(_:ar×Mp×bG×Int)=>bL Jy (fun _ _=>none)) bh (fun _=>rfl) (fun _=>Zt hdr) (n:=500) (by
 rintro⟨c,m,r,now⟩ hp;have h2:ib c m.m:=hp.2.1
 cases m with
 |none=>
  refine⟨(c,(none:Mp),r,now),?_⟩
  repeat first|refine⟨rfl,?_⟩|refine⟨trivial,?_⟩
  refine⟨hp,?_⟩;refine⟨(bF c true (Mp.m none) r now).1,?_⟩
  repeat first|refine⟨rfl,?_⟩|refine⟨trivial,?_⟩
  refine⟨h2.IX true r now,?_⟩
  repeat' first|exact trivial|exact rfl|refine ax (fun _=>?_) fun _=>?_|apply And.intro
 |some y=>
  refine⟨(c,(some y:Mp),r,now),?_⟩
  repeat first|refine⟨rfl,?_⟩|refine⟨trivial,?_⟩
  refine⟨hp,?_⟩;refine⟨(bF c false y.2 r now).1,?_⟩
  repeat first|refine⟨rfl,?_⟩|refine⟨trivial,?_⟩
  refine⟨h2.IX false r now,?_⟩
  repeat' first|exact trivial|exact rfl|refine ax (fun _=>?_) fun _=>?_|apply And.intro)
def Hl:aL:={Y:=ar×aP×Int,pre:=fun y=>fQ y.2.1/\ib y.1 y.2.1,args:=fun y=>[.agg y.1.enc, .agg y.2.1.enc,i64 y.2.2],res:=fun y=>items (fL y.1 y.2.1 y.2.2)}
theorem Pe (hdr:¬(default:aK).dr):CO Io Hl:=bB (cfg:=fun(_:ar×aP×Int)=>bL tO (fun _ _=>none)) bh (fun _=>rfl) (fun _=>vK hdr) (n:=500) (by
 rintro⟨c,m,now⟩ ⟨h1,h2⟩;have h1:fQ m:=h1;have h2:ib c m:=h2;refine⟨c,?_⟩
 repeat first|refine⟨rfl,?_⟩|refine⟨trivial,?_⟩
 refine⟨h2.rules,?_⟩;refine ax (fun h=>?_) fun h=>?_
 . have h:(!(eV c==0))=true:=h;refine⟨?_,trivial⟩;grind [fL,qxZ]
 . have h:(!(eV c==0))=false:=h;have h:eV c=0:=by grind
   obtain⟨k1,k2⟩:=XQ h;refine⟨m,?_⟩
   repeat first|refine⟨rfl,?_⟩|refine⟨trivial,?_⟩
   refine⟨h1,?_⟩;refine⟨(c,iH m,now),?_⟩
   repeat first|refine⟨rfl,?_⟩|refine⟨trivial,?_⟩
   refine⟨⟨by grind,by grind,by show(iH m).length<=10000;have:=h2.len;omega⟩,?_⟩;refine⟨?_,trivial⟩;show items (mL (aN c) (fC c) (iH m) now)=items (fL c m now)
   unfold fL;rw[Rr h h2.rR])
noncomputable def Jz (f:FuncId):Option aL:=bif Nat.beq f Io then some Hl else tO f
theorem Zu (hdr:¬(default:aK).dr):∀f C,Jz f=some C->CO f C:=bg (Pe hdr) (vK hdr)
def GK:aL:={Y:=ar×aP×bG×Int,pre:=fun y=>fQ y.2.1/\ib y.1 y.2.1/\jF y.2.2.1,args:=fun y=>[.agg y.1.enc, .agg y.2.1.enc, .agg y.2.2.1.enc,i64 y.2.2.2],res:=fun y=> .bO [items (bF y.1 false y.2.1 y.2.2.1 y.2.2.2).1,i64 (bF y.1 false y.2.1 y.2.2.1 y.2.2.2).2]}
theorem Mo (hdr:¬(default:aK).dr):CO IA GK:=bB (cfg:=fun(_:ar×aP×bG×Int)=>bL Jz (fun _ _=>none)) bh (fun _=>rfl) (fun _=>Zu hdr) (n:=500) (by
 rintro⟨c,m,r,now⟩ ⟨h1,h2,h3⟩;have h1:fQ m:=h1;have h2:ib c m:=h2;have h3:jF r:=h3;have fin:∀v:Int,v≠0->gB c false r now=v->bF c false m r now=([],v):=fun v n h=>by grind [bF]
 refine⟨c,?_⟩
 repeat first|refine⟨rfl,?_⟩|refine⟨trivial,?_⟩
 refine⟨h2.rules,?_⟩;refine ax (fun h=>?_) fun h=>?_
 . have h:(!(eV c==0))=true:=h;have e:=fin (eV c) (by grind) (by grind [gB]);refine⟨?_,?_⟩
   . grind
   refine⟨?_,trivial⟩;grind
 have h:(!(eV c==0))=false:=h;have h:eV c=0:=by grind
 have e1:gB c false r now=if fD r=false then 1 else if now<0\/1099511627776<now then 4 else 0:=by
   grind [gB]
 refine⟨r,?_⟩
 repeat first|refine⟨rfl,?_⟩|refine⟨trivial,?_⟩
 refine⟨h3,?_⟩;refine ax (fun u=>?_) fun u=>?_
 . have u:(!fD r)=true:=u;have e:=fin 1 (by omega) (by rw[e1,An (by grind)]);refine⟨?_,?_⟩
   . grind
   refine⟨?_,trivial⟩;grind
 have u:(!fD r)=false:=u;rw[Al (by grind)]at e1;refine ax (fun a=>?_) fun a=>?_
 . have a:aZ now 0=true:=a;rw[bM,Aa]at a;have e:=fin 4 (by omega) (by rw[e1,An (.inl a)]);refine⟨?_,?_⟩
   . grind
   refine⟨?_,trivial⟩;grind
 have a:aZ now 0=false:=a;rw[bM,Ah]at a;refine ax (fun b=>?_) fun b=>?_
 . have b:aZ 1099511627776 now=true:=b;rw[bM,Aa]at b;have e:=fin 4 (by omega) (by rw[e1,An (.inr b)]);refine⟨?_,?_⟩
   . grind
   refine⟨?_,trivial⟩;grind
 . have b:aZ 1099511627776 now=false:=b;rw[bM,Ah]at b;have e:bF c false m r now=(kK (fL c m now) r now,0):=by grind [bF]
   refine⟨(c,m,now),?_⟩
   repeat first|refine⟨rfl,?_⟩|refine⟨trivial,?_⟩
   refine⟨⟨h1,h2⟩,?_⟩;refine⟨(fL c m now,r,now),?_⟩
   repeat first|refine⟨rfl,?_⟩|refine⟨trivial,?_⟩
   refine⟨h2.pick h3 now,?_⟩;refine⟨?_,?_⟩
   . grind
   refine⟨?_,trivial⟩;grind)
end
end
end Go.Proofs
namespace Go.Proofs
open Go Go.Am Go.RowKit Go.Sy Go.Gm Go.Maps Go.Sort Go.Shelf
section
variable [Inhabited aK]
theorem Vs {G:bH} {m:aP} (g:cV G m):jD (iH m)=true:=by
 rw[fV];unfold iH;rw[Di];exact K4 g
end
section
def mH (c:ar):Bool:=decide (c.rules.length<=20)&&c.rules.all fun s=>decide (s.length<=300)
theorem MD {c:ar} (h:¬(c.rules.length<=20/\ ∀s∈c.rules,s.length<=300)):mH c=false:=by
 rw[Ar];grind [mH]
theorem YB {c:ar} (h:mH c=true):pv c:=by
 unfold mH at h;rw[Ad,Aa,AG]at h;exact⟨by omega,fun s hs=>by have:=AN (h.2 s hs);omega⟩
section
variable [Inhabited aK]
end
def dN (w:World) (c:ar) (rv:Value):Prop:=Rd w (fun _=>True) true (.bn Bs c.rules fA) rv
theorem dN.cells {w w':World} {c:ar} {rv:Value} (h:dN w c rv) (hc:kc w w'):dN w' c rv:= @ZV ⟨⟨True,#[]⟩⟩ _ _ _ _ hc _ _ h
theorem dN.one {w:World} {c:ar} {rv:Value} (h:dN w c rv):∃a k,rv= .slice a c.rules.length k:=by
 unfold dN at h;generalize hs:SV.bn Bs c.rules fA=s at h
 cases h with
 |fP h0=>cases hs;simp_all
 |ch _ h0 a k=>cases hs;simp_all
 |bn b off cap arr e fz sz u hp hb hz hl hn hc h1 h2=>cases hs;grind
 |_=>cases hs
theorem Rx {w:World} {c:ar} {l:List af} {rv ev:Value} (h:dN w c rv) (he:eJ w l ev):Rd w (fun _=>True) true (.agg (c.enc++[cG l])) (.agg #[.int .i64 c.aB, .int .i64 c.domain, .int .i64 c.total,rv,ev]):=by
 refine .agg rfl fun i s v hs hv=>?_
 have hi:i<5:=(Ae.1 hs).1;unfold ar.enc at hs;match i,hi with
 |0,_|1,_|2,_=>cases hs;cases hv;exact .int _ _
 |3,_=>cases hs;cases hv;exact h
 |4,_=>cases hs;cases hv;exact @zy ⟨⟨True,#[]⟩⟩ _ _ _ he
theorem LY (l:List Bs):Flat (.bn Bs l fA):= .bn fun i x j v _ hv=>by
 cases j with
 |zero=>cases hv;exact .str _
 |succ j=>cases hv
theorem X3 (c:ar):∀s∈c.enc,Flat s:=by
 intro s hs;simp only[ar.enc,Ap,BG,Dm]at hs;rcases hs with rfl|rfl|rfl|rfl
 . exact .int _ _
 . exact .int _ _
 . exact .int _ _
 grind [LY]
theorem Zm (c:ar) (l:List af):∀s∈c.enc++[cG l],Flat s:=by
 grind [X3,yC]
section
variable [Inhabited aK]
end
end
section
section
variable [Inhabited aK]
end
end
section
section
variable [Inhabited aK]
def PZ:aL:={Y:=List bD,pre:=qU,args:=fun y=>[kf y,kf y],res:=fun _=> .bool true}
def Qs (y:List bD):aJ:={α:=Nat,ok:=fun i=>i<=y.length,μ:=fun i=>y.length - i,aV:=[],aO:=fun i=>[(0,kf y),(1,kf y),(5,i64 i)],bm:=fun _=>[]}
theorem qyT:CO Il PZ:=bB (cfg:=fun y=>bL rJ (cu Il 4 (Qs y))) bh (fun _=>rfl) (fun _=>tf) (n:=900) (by
 intro (y:List bD) (hy:qU y);have hl:=hy.1;refine ax (fun h=>?_) fun _=>?_
 . grind
 refine⟨⟨(0:Nat),Ao _,?_⟩,?_⟩
 . repeat' first|exact trivial|exact rfl|refine ax (fun _=>?_) fun _=>?_|apply And.intro
 intro (x:Nat) hx;have hx:x<=y.length:=hx;refine ax (fun hlt=>?_) fun hge=>?_
 . have hlt':x<y.length:=cm hlt;have hov:=hy.2 y[x] (AF hlt');refine aj.2 ⟨_,cp hlt',?_⟩;refine aj.2 ⟨_,cp hlt',?_⟩;refine ah.2 ⟨fun h=>absurd (show(!(y[x].kind==y[x].kind))=true from h) (by simp),fun _=>?_⟩;refine aj.2 ⟨_,cp hlt',?_⟩;refine aj.2 ⟨_,cp hlt',?_⟩;refine ah.2 ⟨fun h=>absurd h (by simp),fun _=>?_⟩;refine aj.2 ⟨_,cp hlt',?_⟩;refine aj.2 ⟨_,cp hlt',?_⟩;refine⟨(y[x].over,y[x].over),?_⟩
   repeat first|refine⟨rfl,?_⟩|refine⟨trivial,?_⟩
   refine⟨⟨by show y[x].over.length<=1000000;omega,by show y[x].over.length<=1000000;omega⟩,?_⟩;refine ah.2 ⟨fun h=>absurd h (by simp),fun _=>?_⟩;refine ae.2 ⟨cj x (by omega),?_⟩;refine⟨(x+1:Nat),hlt',by show y.length - (x+1)<y.length - x;omega,?_⟩
   repeat' first|exact trivial|exact rfl|refine ax (fun _=>?_) fun _=>?_|apply And.intro
 . repeat' first|exact trivial|exact rfl|refine ax (fun _=>?_) fun _=>?_|apply And.intro)
end
end
section
def lY (l:List bD):Prop:=l.length<=100000/\ ∀d∈l,d.over.length<=100000
def fo (l:List bD):Bool:=l.all fun d=>decide (d.over.length<=64)
theorem MZ {l:List bD} {x:Nat} (h:x<l.length) (h1:fo (l.take x)=true) (h2:l[x].over.length<=64):fo (l.take (x+1))=true:=by
 grind [fo,List.take_succ_eq_append_getElem]
theorem OM {l:List bD} {x:Nat} (h:x<l.length) (h2:64<l[x].over.length):fo l=false:=by
 grind [fo]
theorem NM {l:List bD} {x:Nat} (h:l.length<=x) (h1:fo (l.take x)=true):fo l=true:=by rwa [Aq h]at h1
section
variable [Inhabited aK]
noncomputable def JA (f:FuncId):Option aL:=bif Nat.beq f JT then some PX else bu f
theorem Zv (hdr:¬(default:aK).dr):∀f C,JA f=some C->CO f C:=bg (qyR hdr) eX
def QH (l:List bD):aJ:={α:=Nat,ok:=fun i=>i<=l.length/\fo (l.take i)=true,μ:=fun i=>l.length - i,aV:=[0,1],aO:=fun i=>[(7,kf l),(8,i64 (Int.ofNat l.length)),(9,i64 i)],bm:=fun _=>[]}
def PS:aL:={Y:=Nat×aP×List bD,pre:=fun y=>cT y.1 y.2.1/\lY y.2.2,args:=fun y=>[.wp ⟨y.1,0,none⟩,kf y.2.2],res:=fun y=> .bool (fo y.2.2&&decide (y.2.1.kept.length+y.2.2.length<=2048))}
theorem qyA (hdr:¬(default:aK).dr):CO Iq PS:=bB (cfg:=fun(y:Nat×aP×List bD)=>bL JA (cu Iq 2 (QH y.2.2))) bh (fun _=>rfl) (fun _=>Zv hdr) (n:=600) (by
 rintro⟨b,m,l⟩ ⟨hm,hl⟩;have hm:cT b m:=hm;have hl:lY l:=hl;have hl1:=hl.1;refine⟨⟨(0:Nat),⟨Ao _,rfl⟩,?_⟩,?_⟩
 . repeat' first|exact trivial|exact rfl|refine ax (fun _=>?_) fun _=>?_|apply And.intro
 intro (x:Nat) hx0;have hx:x<=l.length:=hx0.1;have hfx:fo (l.take x)=true:=hx0.2;refine ax (fun hlt=>?_) fun hge=>?_
 . have hlt':x<l.length:=cm hlt;have hov:=hl.2 l[x] (AF hlt');refine aj.2 ⟨_,cp hlt',?_⟩;refine ax (fun h=>?_) fun h=>?_
   . have h:aZ 64 (Int.ofNat l[x].over.length)=true:=h;rw[bM,Aa]at h;have h:(64:Int)<(l[x].over.length:Int):=h;have hf:=OM hlt' (by omega);refine⟨?_,?_⟩
     . grind
     repeat' first|exact trivial|exact rfl|refine ax (fun _=>?_) fun _=>?_|apply And.intro
   . have h:aZ 64 (Int.ofNat l[x].over.length)=false:=h;rw[bM,Ah]at h;have h:¬(64:Int)<(l[x].over.length:Int):=h;have hf:=MZ hlt' hfx (by omega);refine ae.2 ⟨cj x (by omega),?_⟩;refine⟨(x+1:Nat),⟨hlt',hf⟩,by show l.length - (x+1)<l.length - x;omega,?_⟩
     repeat' first|exact trivial|exact rfl|refine ax (fun _=>?_) fun _=>?_|apply And.intro
 . have hf:=NM (gf hge) hfx;refine⟨(b,m,l.length),?_⟩
   repeat first|refine⟨rfl,?_⟩|refine⟨trivial,?_⟩
   refine⟨⟨hm,by grind⟩,?_⟩;refine⟨?_,?_⟩
   . grind
   repeat' first|exact trivial|exact rfl|refine ax (fun _=>?_) fun _=>?_|apply And.intro)
def PR:aL:={Y:=aP×List bD,pre:=fun y=>fQ y.1/\lY y.2,args:=fun y=>[.agg y.1.enc,kf y.2],res:=fun y=> .bool (fo y.2&&decide (y.1.kept.length+y.2.length<=2048))}
def QG (l:List bD):aJ:={α:=Nat,ok:=fun i=>i<=l.length/\fo (l.take i)=true,μ:=fun i=>l.length - i,aV:=[2,4],aO:=fun i=>[(1,kf l),(5,i64 i)],bm:=fun _=>[]}
theorem qyz:CO Ik PR:=bB (cfg:=fun(y:aP×List bD)=>bL bu (cu Ik 2 (QG y.2))) bh (fun _=>rfl) (fun _=>eX) (n:=600) (by
 rintro⟨m,l⟩ ⟨hm,hl⟩;have hm:fQ m:=hm;have hl:lY l:=hl;have hl1:=hl.1;refine⟨⟨(0:Nat),⟨Ao _,rfl⟩,?_⟩,?_⟩
 . repeat' first|exact trivial|exact rfl|refine ax (fun _=>?_) fun _=>?_|apply And.intro
 intro (x:Nat) hx0;have hx:x<=l.length:=hx0.1;have hfx:fo (l.take x)=true:=hx0.2;refine ax (fun hlt=>?_) fun hge=>?_
 . have hlt':x<l.length:=cm hlt;have hov:=hl.2 l[x] (AF hlt');refine aj.2 ⟨_,cp hlt',?_⟩;refine ax (fun h=>?_) fun h=>?_
   . have h:aZ 64 (Int.ofNat l[x].over.length)=true:=h;rw[bM,Aa]at h;have h:(64:Int)<(l[x].over.length:Int):=h;have hf:=OM hlt' (by omega);refine⟨?_,?_⟩
     . grind
     repeat' first|exact trivial|exact rfl|refine ax (fun _=>?_) fun _=>?_|apply And.intro
   . have h:aZ 64 (Int.ofNat l[x].over.length)=false:=h;rw[bM,Ah]at h;have h:¬(64:Int)<(l[x].over.length:Int):=h;have hf:=MZ hlt' hfx (by omega);refine ae.2 ⟨cj x (by omega),?_⟩;refine⟨(x+1:Nat),⟨hlt',hf⟩,by show l.length - (x+1)<l.length - x;omega,?_⟩
     repeat' first|exact trivial|exact rfl|refine ax (fun _=>?_) fun _=>?_|apply And.intro
 . have hk:=hm.kept;have hf:=NM (gf hge) hfx;refine ae.2 ⟨by
     have e:bw .i64 ((m.kept.length:Int)+(l.length:Int))=true:=by rw[fT];omega
     exact e,?_⟩
   refine⟨?_,?_⟩
   . grind [fg]
   repeat' first|exact trivial|exact rfl|refine ax (fun _=>?_) fun _=>?_|apply And.intro)
end
end
end Go.Proofs
namespace Go.Proofs
open Go Go.Am Go.RowKit Go.Sy
section
def zt (x:ab) (now:Int):ab:={x with aa:={x.aa with access:=now}}
def iA (now:Int) (x:ab):Bool:=decide (x.aa.access<now)
def wA (m:aP) (now:Int) (x:ab):bD:=⟨1,zt x now,l9 m x.key⟩
def fi (m:aP) (now:Int) (l:List ab):List bD:=(l.filter (iA now)).map (wA m now)
def gK (c:ar) (nil:Bool) (m:aP) (r:bG) (now:Int):List bD×Int:=
 if(bF c nil m r now).2=0 then
  (if(fo (fi m now (bF c nil m r now).1)&&decide (m.kept.length+(fi m now (bF c nil m r now).1).length<=2048))=true then(fi m now (bF c nil m r now).1,0)else([],9))
 else([],(bF c nil m r now).2)
section
variable [Inhabited aK]
theorem M4 {m:aP} {now:Int} {l:List ab} {i:Nat} (h:i<l.length):fi m now (l.take (i+1))=fi m now (l.take i)++(if iA now l[i]then[wA m now l[i]]else[]):=by
 grind [fi,vW]
theorem Oz (m:aP) (now:Int) (l:List ab) (i:Nat):(fi m now (l.take i)).length<=i:=by
 grind [fi]
def tF (x:ab) (now:Int):ab:={x with aa:={x.aa with access:=if now>x.aa.access then now else x.aa.access}}
theorem Xg {x:ab} {now:Int} (h:iA now x=true):tF x now=zt x now:=by
 grind [iA,tF,zt]
def P5:aL:={Y:=ab×Int,pre:=fun _=>True,args:=fun y=>[.agg y.1.enc,i64 y.2],res:=fun y=> .bO [.agg (tF y.1 y.2).enc, .bool (iA y.2 y.1)]}
theorem qy4:CO JX P5:=bB (cfg:=fun(_:ab×Int)=>bL bu (fun _ _=>none)) bh (fun _=>rfl) (fun _=>eX) (n:=500) (by
 rintro⟨⟨⟨kn,kd,kp⟩,⟨v,ho,se,ht,pe,ex,cr,ac⟩⟩,now⟩ -
 (conv=>whnf)
 repeat ((conv=>whnf);refine And.intro rfl ?_)
 refine⟨?_,trivial⟩;grind [iA])
noncomputable def Jb (ia:FuncId->Option aL) (mr:FuncId->Nat->Option aJ):iM:={tab:=pJ,view:=fun t=>bif Nat.beq t C4 then some ⟨bD,bD.enc⟩else Qi t,ia,mr}
noncomputable def HG (f:FuncId):Option aL:=bif Nat.beq f JX then some P5 else bif Nat.beq f CU then some PO else bif Nat.beq f Iq then some PS else bif Nat.beq f qc then some Hi else bif Nat.beq f Ik then some PR else bif Nat.beq f nQ then some vG else bif Nat.beq f IA then some GK else bu f
theorem Nt (hdr:¬(default:aK).dr):∀f C,HG f=some C->CO f C:=bg qy4 (bg (qyw hdr) (bg (qyA hdr) (bg O7 (bg qyz (bg (x7 hdr) (bg (Mo hdr) eX))))))
theorem uj (n:Nat) (h:n<=60000):(Nat.ble (n*128) 16777216&&Nat.ble n 16777216)=true:=by
 rw[Ad,Au,Au];omega
def H9:aL:={Y:=ar×Mp×bG×Int,pre:=lW,args:=fun y=>[.agg y.1.enc,y.2.1.arg, .agg y.2.2.1.enc,i64 y.2.2.2],res:=fun y=> .bO [kf (gK y.1 y.2.1.isNone y.2.1.m y.2.2.1 y.2.2.2).1,i64 (gK y.1 y.2.1.isNone y.2.1.m y.2.2.1 y.2.2.2).2]}
def Qp (y:ar×Mp×bG×Int):aJ:=let l:=(bF y.1 false y.2.1.m y.2.2.1 y.2.2.2).1;{α:=Nat,ok:=fun i=>i<=l.length,μ:=fun i=>l.length - i,aV:=[1,3],aO:=fun i=>[(12, .own 2),(28,items l),(29,i64 (Int.ofNat l.length)),(30,i64 i)],bm:=fun i=>[(2, .arr bD (fi y.2.1.m y.2.2.2 (l.take i)) bD.enc C4)]}
theorem Pd (hdr:¬(default:aK).dr):CO pX H9:=bB (cfg:=fun(y:ar×Mp×bG×Int)=>Jb HG (cu pX 6 (Qp y))) bh (fun _=>rfl) (fun _=>Nt hdr) (n:=900) (by
 rintro⟨c,m,r,now⟩ hp;have h1:m.at:=hp.1;have h2:ib c m.m:=hp.2.1;have h3:jF r:=hp.2.2
 cases m with
 |none=>
  refine⟨(c,(none:Mp),r,now),?_⟩
  repeat first|refine⟨rfl,?_⟩|refine⟨trivial,?_⟩
  refine⟨hp,?_⟩
  (conv=>whnf)
  repeat' first|exact trivial|exact rfl|refine ax (fun _=>?_) fun _=>?_|apply And.intro
 | some y=>
  obtain⟨b,m⟩:=y;have hS:cT b m:=h1;have h2:ib c m:=h2;obtain⟨hl,hmem⟩:=h2.items false r now;refine⟨(c,(some (b,m):Mp),r,now),?_⟩
  repeat first|refine⟨rfl,?_⟩|refine⟨trivial,?_⟩
  refine⟨hp,?_⟩;refine ax (fun h=>?_) fun h=>?_
  . have h:(!((bF c false m r now).2==0))=true:=h;have e:gK c false m r now=([],(bF c false m r now).2):=by grind [gK]
    refine⟨?_,?_⟩
    . grind [gK]
    refine⟨?_,trivial⟩;grind [gK]
  have h:(!((bF c false m r now).2==0))=false:=h;have e:gK c false m r now=if(fo (fi m now (bF c false m r now).1)&&decide (m.kept.length+(fi m now (bF c false m r now).1).length<=2048))=true then(fi m now (bF c false m r now).1,0)else([],9):=by grind [gK]
  have hdl:∀k,(l9 m k).length<=50000:=fun k=>by unfold l9;rw[Ba];exact tz hS.ok k
  refine⟨⟨(0:Nat),Ao _,?_⟩,?_⟩
  . repeat' first|exact trivial|exact rfl|refine ax (fun _=>?_) fun _=>?_|apply And.intro
    all_goals (try exact aj.2 ⟨_,rfl,ae.2 ⟨rfl,fun _=>rfl⟩⟩)
  intro (x:Nat) hx;have hx:x<=(bF c false m r now).1.length:=hx;have hpl:=Oz m now (bF c false m r now).1 x;refine ax (fun hlt=>?_) fun hge=>?_
  . have hlt':x<(bF c false m r now).1.length:=cm hlt;have hn:=M4 (m:=m) (now:=now) hlt';have mu:(bF c false m r now).1.length - (x+1)<(bF c false m r now).1.length - x:=by omega
    (conv=>whnf)
    refine aj.2 ⟨_,cp hlt',?_⟩;refine⟨((bF c false m r now).1[x],now),?_⟩
    repeat first|refine⟨rfl,?_⟩|refine⟨trivial,?_⟩
    refine ax (fun o=>?_) fun o=>?_
    . have o:iA now (bF c false m r now).1[x]=true:=o;have hdr2:wA m now (bF c false m r now).1[x]=⟨1,tF (bF c false m r now).1[x] now,l9 m (bF c false m r now).1[x].key⟩:=by grind [wA,Xg]
      rw[An o,hdr2]at hn;refine⟨((some (b,m),(bF c false m r now).1[x].key):Mp×aG),?_⟩
      repeat first|refine⟨rfl,?_⟩|refine⟨trivial,?_⟩
      refine⟨hS,?_⟩;refine⟨(⟨1,tF (bF c false m r now).1[x] now,l9 m (bF c false m r now).1[x].key⟩:bD),rfl,?_⟩
      (conv=>whnf)
      refine ae.2 ⟨uj _ (by grind [fi]),?_⟩
      (conv=>whnf)
      refine ae.2 ⟨cj x (by omega),?_⟩;refine⟨(x+1:Nat),hlt',mu,?_⟩
      repeat' first|exact trivial|exact rfl|refine ax (fun _=>?_) fun _=>?_|apply And.intro
      all_goals ((conv=>whnf);show kf (fi m now ((bF c false m r now).1.take x)++[⟨1,tF (bF c false m r now).1[x] now,l9 m (bF c false m r now).1[x].key⟩])=kf (fi m now ((bF c false m r now).1.take (x+1)));rw[hn])
    . have o:iA now (bF c false m r now).1[x]=false:=o;rw[Al (by simp[o]),Br]at hn
      (conv=>whnf)
      refine ae.2 ⟨cj x (by omega),?_⟩;refine⟨(x+1:Nat),hlt',mu,?_⟩
      repeat' first|exact trivial|exact rfl|refine ax (fun _=>?_) fun _=>?_|apply And.intro
      all_goals ((conv=>whnf);show kf (fi m now ((bF c false m r now).1.take x))=kf (fi m now ((bF c false m r now).1.take (x+1)));rw[hn])
  . have hge':(bF c false m r now).1.length<=x:=gf hge;have hall:fi m now ((bF c false m r now).1.take x)=fi m now (bF c false m r now).1:=by rw[Aq hge']
    have hlf:lY (fi m now (bF c false m r now).1):=by
      rw[hall]at hpl;refine⟨by omega,fun d hd=>?_⟩;obtain⟨y,_,rfl⟩:=AL.1 hd;have:=hdl y.key;show(l9 m y.key).length<=100000
      omega
    refine⟨(b,m,fi m now (bF c false m r now).1),?_⟩;refine⟨rfl,?_⟩;refine⟨by show kf (fi m now ((bF c false m r now).1.take x))=kf (fi m now (bF c false m r now).1);rw[hall],?_⟩;refine⟨⟨hS,hlf⟩,?_⟩;refine ax (fun q=>?_) fun q=>?_
    . have q:(!(fo (fi m now (bF c false m r now).1)&&decide (m.kept.length+(fi m now (bF c false m r now).1).length<=2048)))=true:=q;rw[A2]at q;rw[q,Al Bool.false_ne_true]at e;refine⟨?_,?_⟩
      . show(gK c false m r now).1=([]:List bD)
        rw[e]
      refine⟨?_,trivial⟩;show(9:Int)=(gK c false m r now).2
      rw[e]
    . have q:(!(fo (fi m now (bF c false m r now).1)&&decide (m.kept.length+(fi m now (bF c false m r now).1).length<=2048)))=false:=q;rw[DY]at q;rw[q,An rfl]at e;refine⟨?_,?_⟩
      . show kf (fi m now ((bF c false m r now).1.take x))=kf (gK c false m r now).1
        rw[e,hall]
      refine⟨?_,trivial⟩;show(0:Int)=(gK c false m r now).2
      rw[e])
end
end
end Go.Proofs
namespace Go.Proofs
open Go Go.Am Go.RowKit Go.Sy Go.Gm Go.Maps Go.Sort Go.Shelf
theorem FA [Inhabited aK] {w:World} {tmps:Array Value} {ts:Fr} {t b:Nat} {c:ar} {l:List af} {rv ev:Value} {fz:Nat×Nat} (h1:tmps[t]? =some (.pointer (some ⟨b,0,none⟩))) (hb:w.heap[b]? =some (.cells #[.int .i64 c.aB, .int .i64 c.domain, .int .i64 c.total,rv,ev] 27 fz))
  (hr:dN w c rv) (he:eJ w l ev) (h:eu Tryz.tab w tmps ts):eu Tryz.tab w tmps ((t, .cz (c.enc++[cG l]) 0)::ts):=by
 have hlt:=(Ab.1 hb).1;refine h.put (av:= .ptr b 0) h1 (fun E hE=>by grind [ag]) ?_;have hg:(bY Tryz.tab w).get b=some (.cells [.int .i64 c.aB, .int .i64 c.domain, .int .i64 c.total,cJ w.heap.size rv,cJ w.heap.size ev] 27 ((Tryz.tab.siz.get 27).getD 1) false .ro):=by
  rw[tt];unfold jY;rw[hb];rfl
 refine .cz b 0 _ 27 _ false .ro (fun j=>([.int .i64 c.aB, .int .i64 c.domain, .int .i64 c.total,cJ w.heap.size rv,cJ w.heap.size ev]:List AV)[j]?.getD .bq) hg (Ac 5) (fun j v hj=>?_) (fun j v hj=>?_)
 all_goals
  have hj3:j<5:=(Ae.1 hj).1;unfold ar.enc at hj;match j,hj3 with
  |0,_|1,_|2,_=>cases hj;first|rfl|exact .int _ _
  |3,_=>cases hj;first|rfl|exact rF (LY _) hr
  |4,_=>cases hj;first|rfl|exact rF (yC _) (zy he)
theorem Yy [Inhabited aK] {w:World} {c:ar} {l:List af} {v:Value} (h:Rd w (fun _=>True) true (.agg (c.enc++[cG l])) v):∃rv ev,v= .agg #[.int .i64 c.aB, .int .i64 c.domain, .int .i64 c.total,rv,ev]/\dN w c rv/\eJ w l ev:=by
 cases h with
 | @agg cs vs h1 h2=>
  obtain⟨vl⟩:=vs;match vl,h1 with
  |[a,b,d,rv,ev],_=>
   have k0:=ji (h2 0 (.int .i64 c.aB) a rfl rfl);have k1:=ji (h2 1 (.int .i64 c.domain) b rfl rfl);have k2:=ji (h2 2 (.int .i64 c.total) d rfl rfl);subst k0;subst k1;subst k2;exact⟨rv,ev,rfl,h2 3 _ _ rfl rfl,Py (h2 4 (cG l) _ rfl rfl)⟩
section
theorem yo (w:World): @cX (oH w) w:=by intro b _;rfl
theorem ry (w:World):¬(@default aK (oH w)).dr:=fun h=>h
def spine:Nat->Code->Code
 |0,c=>c
 |n+1, .seq _ b=>spine n b
 |_+1,c=>c
def nr (r:bG):Bool:=decide (r.host.length<=2000)&&decide (r.path.length<=2000)
def cZ (c:ar) (l:List af) (r:bG):Bool:=mH c&&nr r&&(bT (Int.ofNat l.length) 30&&l.all jE)
theorem FJ {r:bG} (h:nr r=true):jF r:=by
 unfold nr at h;rw[Ad,Aa,Aa]at h;exact⟨by omega,by omega⟩
theorem yA {G:bH} {l:List af} {c:ar} (g:cV G (foldM l)) (hl:rH l) (h30:l.length<=30) (hc:mH c=true):ib c (foldM l):=by
 letI:Inhabited aK:=⟨⟨True,#[]⟩⟩
 have hb:=qh hl.2 l.length (Ac _);rw[A6]at hb;have hkp:=hb.kept;refine⟨YB hc,Av (qvd _) (by omega),fun x hx=>?_,Vs g⟩;obtain⟨e,he,rfl⟩:=AL.1 hx;obtain⟨k,hk,rfl⟩:=(LD g e).1 he;have h1:=NP l (AB.1 (ec.1 (vq hk)).1).1;have h2:=hl.2 _ h1;simp only[jE,Ad,fg,Aa,Af]at h2;show(dU (foldM l) k).1.key.name.length<=2000/\(dU (foldM l) k).1.key.domain.length<=100000/\(dU (foldM l) k).1.key.path.length<=100000/\(dU (foldM l) k).1.aa.value.length<=2000
 omega
theorem MX {c:ar} (hc:pv c):ib c ⟨[],[],[]⟩:=⟨hc,by decide,(fun x hx=>by cases hx),rfl⟩
theorem V7 (c:ar) (now:Int):fL c ⟨[],[],[]⟩ now=[]:=List.sublist_nil.1 (dX (c:=c) (m:=⟨[],[],[]⟩) (now:=now))
section
variable [Inhabited aK]
noncomputable def Jw (f:FuncId):Option aL:=bif Nat.beq f pP then some Fv else bu f
theorem ZT:∀f C,Jw f=some C->CO f C:=bg L8 eX
def OV:aL:={Y:=ar×List af×bG,pre:=fun _=>True,args:=fun y=>[.agg (y.1.enc++[cG y.2.1]), .agg y.2.2.enc],res:=fun y=> .bool (cZ y.1 y.2.1 y.2.2)}
def qxn (c:ar):aJ:={α:=Nat,ok:=fun i=>i<=c.rules.length/\ ∀j (h:j<c.rules.length),j<i->c.rules[j].length<=300,μ:=fun i=>c.rules.length - i,aV:=[2,3,4],aO:=fun i=>[(5,i64 i)],bm:=fun _=>[]}
theorem qvI:CO TI OV:=bB (cfg:=fun(y:ar×List af×bG)=>bL Jw (cu TH 4 (qxn y.1))) bh (fun _=>rfl) (fun _=>ZT) (n:=900) (by
 rintro⟨c,l,r⟩ -;have no1:mH c=false->false=cZ c l r:=fun h=>by grind [cZ]
 have no2:nr r=false->false=cZ c l r:=fun h=>by grind [cZ]
 refine ax (fun h=>?_) fun h20=>?_
 . have h:aZ 20 (Int.ofNat c.rules.length)=true:=h;rw[bM,Aa]at h;have h:(20:Int)<(c.rules.length:Int):=h
   (conv=>whnf)
   exact⟨no1 (MD fun h'=>by omega),trivial⟩
 have hr:c.rules.length<=20:=by
   have h20:aZ 20 (Int.ofNat c.rules.length)=false:=h20;rw[bM,Ah]at h20;have h20:¬(20:Int)<(c.rules.length:Int):=h20;omega
 refine ax (fun h=>?_) fun h=>?_
 . have h:aZ 2000 (Int.ofNat r.host.length)=true:=h;rw[bM,Aa]at h;have h:(2000:Int)<(r.host.length:Int):=h
   (conv=>whnf)
   exact⟨no2 (by grind [nr]),trivial⟩
 have hh:decide (r.host.length<=2000)=true:=by
   have h:aZ 2000 (Int.ofNat r.host.length)=false:=h;rw[bM,Ah]at h;have h:¬(2000:Int)<(r.host.length:Int):=h;grind
 refine ax (fun h=>?_) fun h=>?_
 . have h:aZ 2000 (Int.ofNat r.path.length)=true:=h;rw[bM,Aa]at h;have h:(2000:Int)<(r.path.length:Int):=h
   (conv=>whnf)
   exact⟨no2 (by grind [nr]),trivial⟩
 have hp:decide (r.path.length<=2000)=true:=by
   have h:aZ 2000 (Int.ofNat r.path.length)=false:=h;rw[bM,Ah]at h;have h:¬(2000:Int)<(r.path.length:Int):=h;grind
 have hlr:nr r=true:=by grind [nr]
 refine⟨⟨(0:Nat),⟨Ao _,fun j h hj=>absurd hj (A9 _)⟩,?_⟩,?_⟩
 . repeat' first|exact trivial|exact rfl|refine ax (fun _=>?_) fun _=>?_|apply And.intro
 rintro(x:Nat) ⟨hx,hx2⟩;have hx:x<=c.rules.length:=hx;refine ax (fun hlt=>?_) fun hge=>?_
 . have hlt':x<c.rules.length:=cm hlt;refine aj.2 ⟨_,cp hlt',?_⟩;refine ax (fun hs=>?_) fun hs=>?_
   . have hs:aZ 300 (Int.ofNat c.rules[x].length)=true:=hs;rw[bM,Aa]at hs;have hs:(300:Int)<(c.rules[x].length:Int):=hs
     (conv=>whnf)
     exact⟨no1 (MD fun h'=>by have:=h'.2 _ (AF hlt');omega),trivial⟩
   . have hs:aZ 300 (Int.ofNat c.rules[x].length)=false:=hs;rw[bM,Ah]at hs;have hs:¬(300:Int)<(c.rules[x].length:Int):=hs;refine ae.2 ⟨cj x (by omega),?_⟩;refine⟨(x+1:Nat),⟨hlt',fun j h hj=>?_⟩,by show c.rules.length - (x+1)<c.rules.length - x;omega,?_⟩
     . grind
     . repeat' first|exact trivial|exact rfl|refine ax (fun _=>?_) fun _=>?_|apply And.intro
 . have hge':c.rules.length<=x:=gf hge;have hc:mH c=true:=by
     grind [mH,List.getElem_of_mem]
   refine⟨(l,30),?_⟩
   repeat first|refine⟨rfl,?_⟩|refine⟨trivial,?_⟩
   refine⟨by show(30:Int)<=1000000;omega,?_⟩;refine⟨?_,trivial⟩;grind [cZ])
end
end
theorem Ho (w:World) (x y z:Value):∃W1 W2 W3,(w.alloc (.cells #[.slice none 0 0, .slice none 0 0, .slice none 0 0] 36)).setCell ⟨w.heap.size,0,none⟩ x=W1/\W1.setCell ⟨w.heap.size,1,none⟩ y=W2/\W2.setCell ⟨w.heap.size,2,none⟩ z=W3/\
  (w.alloc (.cells #[.slice none 0 0, .slice none 0 0, .slice none 0 0] 36)).cell? ⟨w.heap.size,0,none⟩=some (.slice none 0 0)/\(w.alloc (.cells #[.slice none 0 0, .slice none 0 0, .slice none 0 0] 36)).frozen? ⟨w.heap.size,0,none⟩=false/\W1.cell? ⟨w.heap.size,1,none⟩=some (.slice none 0 0)/\W1.frozen? ⟨w.heap.size,1,none⟩=false/\W2.cell? ⟨w.heap.size,2,none⟩=some (.slice none 0 0)/\W2.frozen? ⟨w.heap.size,2,none⟩=false/\
  W3.heap[w.heap.size]? =some (.cells #[x,y,z] 36 (0,0))/\Below w.heap.size w W3:=by
 have hb:(w.alloc (.cells #[.slice none 0 0, .slice none 0 0, .slice none 0 0] 36)).heap[w.heap.size]? =some (.cells #[.slice none 0 0, .slice none 0 0, .slice none 0 0] 36 (0,0)):=World.alloc_heap_new _ _;obtain⟨W1,W2,W3,e1,e2,e3,c0,f0,c1,f1,c2,f2,g0,g1,g2,hbb,hbel⟩:=Qf hb x y z;have h1:=sL (o:=0) hb x;rw[e1]at h1;have h2:=sL (o:=1) h1 y;rw[e2]at h2;have h3:=sL (o:=2) h2 z;rw[e3]at h3;exact⟨W1,W2,W3,e1,e2,e3,c0,f0,c1,f1,c2,f2,h3,((Below.refl _ _).alloc (Ac _) _).trans (hbel _ (Ac _))⟩
abbrev kM (r:bG):Value:= .agg #[.string ⟨r.host.toArray⟩, .string ⟨r.path.toArray⟩, .bool r.aM, .bool r.ep]
theorem Zn (r:bG):∀s∈r.enc,Flat s:=by
 intro s hs;simp only[bG.enc,Ap,BG,Dm]at hs;rcases hs with rfl|rfl|rfl|rfl
 . exact .str _
 . exact .str _
 . exact .bool _
 . exact .bool _
theorem RG {w:World} (r:bG):Rd w (fun _=>True) true (.agg r.enc) (kM r):=by
 refine .agg rfl fun i s v hs hv=>?_
 have hi:i<4:=(Ae.1 hs).1;unfold bG.enc at hs;match i,hi with
 |0,_|1,_=>cases hs;cases hv;exact .str _
 |2,_|3,_=>cases hs;cases hv;exact .bool _
theorem FC [Inhabited aK] {w:World} {tmps:Array Value} {ts:Fr} {t b:Nat} {r:bG} {fz:Nat×Nat} (h1:tmps[t]? =some (.pointer (some ⟨b,0,none⟩))) (hb:w.heap[b]? =some (.cells #[.string ⟨r.host.toArray⟩, .string ⟨r.path.toArray⟩, .bool r.aM, .bool r.ep] 29 fz))
  (h:eu Tryz.tab w tmps ts):eu Tryz.tab w tmps ((t, .cz r.enc 0)::ts):=by
 have hlt:=(Ab.1 hb).1;refine h.put (av:= .ptr b 0) h1 (fun E hE=>by simp[ag,hE b hlt]) ?_;have hg:(bY Tryz.tab w).get b=some (.cells [cJ w.heap.size (.string ⟨r.host.toArray⟩),cJ w.heap.size (.string ⟨r.path.toArray⟩), .bool r.aM, .bool r.ep] 29 ((Tryz.tab.siz.get 29).getD 1) false .ro):=by
  rw[tt];unfold jY;rw[hb];rfl
 refine .cz b 0 _ 29 _ false .ro (fun j=>([cJ w.heap.size (.string ⟨r.host.toArray⟩),cJ w.heap.size (.string ⟨r.path.toArray⟩), .bool r.aM, .bool r.ep]:List AV)[j]?.getD .bq) hg (Ac 4) (fun j v hj=>?_) (fun j v hj=>?_)
 all_goals
  have hj3:j<4:=(Ae.1 hj).1;unfold bG.enc at hj;match j,hj3 with
  |0,_|1,_=>cases hj;first|rfl|exact .str _
  |2,_|3,_=>cases hj;first|rfl|exact .bool _
theorem Tryz.cZ {w:World} {c:ar} {l:List af} {r:bG} {rv ev:Value} (h:dN w c rv) (he:eJ w l ev):Calls Tryz.prog 7 #[.agg #[.int .i64 c.aB, .int .i64 c.domain, .int .i64 c.total,rv,ev],kM r] w fun e w'=>e= .returned (.bool (Go.Proofs.cZ c l r))/\Below w.heap.size w w':=
 zW (C:=fun _=>OV) (fun I=> @qvI I) (hfn:=rfl) (hb:=rfl) (args:=[.agg #[.int .i64 c.aB, .int .i64 c.domain, .int .i64 c.total,rv,ev],kM r]) (fun I=>⟨(c,l,r),trivial,PL.cons (@Px I _ _ _ _ _ (Zm c l) _ (Rx h he)) (PL.cons (@Px I _ _ _ _ _ (Zn r) _ (RG r)) PL.nil),rfl⟩)
section
section
variable [Inhabited aK]
noncomputable def Jf (f:FuncId):Option aL:=bif Nat.beq f nQ then some vG else bif Nat.beq f sA then some Fu else bif Nat.beq f IA then some GK else bif Nat.beq f pY then some zo else bif Nat.beq f Io then some Hl else bif Nat.beq f lB then some wm else bif Nat.beq f p9 then some wu else bu f
theorem ZP (hdr:¬(default:aK).dr):∀f C,Jf f=some C->CO f C:=bg (x7 hdr) (bg (L7 hdr) (bg (Mo hdr) (bg (G9 hdr) (bg (Pe hdr) (bg G8 (bg Pf eX))))))
noncomputable def Jd (f:FuncId):Option aL:=bif Nat.beq f lA then some rL else Jf f
theorem ZN (hdr:¬(default:aK).dr) (ha:CO lA rL):∀f C,Jd f=some C->CO f C:=bg ha (ZP hdr)
theorem qx7 {b:Nat} {c:ar} {m:aP} {l:List af} {r:bG} {now:Int} (hok:fQ m) (hS:cT b m) (hf:ib c m) (hr:jF r):
   wp (bL Jd (fun _ _=>none)) 2000 ⟨Tt,110,0,[.code (spine 3 (Tryz.f3.body.getD .skip))],⟨[(2,i64 now),(3, .cz (c.enc++[cG l]) 0),(4, .cz r.enc 0),(7, .wp ⟨b,0,none⟩),(8, .cz m.enc 0)],⟨0,[]⟩,[]⟩⟩ sJ:=by
 obtain⟨hl,_⟩:=hf.items false r now;have ht:=hf.IX false r now;have hsl:(fL c m now).length<=30:=Av dX.length_le hf.len;have hpre:lW (c,some (b,m),r,now):=⟨hS,hf,hr⟩;have hpre0:lW (c,none,r,now):=⟨trivial,MX hf.rules,hr⟩;have yes:∀n:Int,(n==n)=false->False:=fun n h=>by simp at h
 refine⟨(c,(some (b,m):Mp),r,now),?_⟩
 repeat first|refine⟨rfl,?_⟩|refine⟨trivial,?_⟩
 refine⟨hpre,?_⟩;refine⟨(c,(some (b,m):Mp),r,now),?_⟩
 repeat first|refine⟨rfl,?_⟩|refine⟨trivial,?_⟩
 refine⟨hpre,?_⟩;refine⟨(c,m,r,now),?_⟩
 repeat first|refine⟨rfl,?_⟩|refine⟨trivial,?_⟩
 refine⟨⟨hok,hf,hr⟩,?_⟩;refine⟨(c,(none:Mp),r,now),?_⟩
 repeat first|refine⟨rfl,?_⟩|refine⟨trivial,?_⟩
 refine⟨hpre0,?_⟩;refine ah.2 ⟨fun _=>?_,fun h=>(yes _ h).elim⟩;refine ah.2 ⟨fun _=>?_,fun h=>(yes _ h).elim⟩;refine⟨((bF c false m r now).1,(bF c false m r now).1),?_⟩
 repeat first|refine⟨rfl,?_⟩|refine⟨trivial,?_⟩
 refine⟨⟨by show(bF c false m r now).1.length<=10000;omega,by show(bF c false m r now).1.length<=10000;omega⟩,?_⟩;refine ah.2 ⟨fun _=>?_,fun h=>absurd (show decide ((bF c false m r now).1=(bF c false m r now).1)=false from h) (by simp)⟩;refine⟨(bF c false m r now).1,?_⟩
 repeat first|refine⟨rfl,?_⟩|refine⟨trivial,?_⟩
 refine⟨ht,?_⟩;refine ah.2 ⟨fun _=>?_,fun h=>absurd (show(iW (bF c false m r now).1==iW (bF c false m r now).1)=false from h) (by simp)⟩;refine⟨(c,(some (b,m):Mp),now),?_⟩
 repeat first|refine⟨rfl,?_⟩|refine⟨trivial,?_⟩
 refine⟨⟨hS,hf⟩,?_⟩;refine⟨(c,m,now),?_⟩
 repeat first|refine⟨rfl,?_⟩|refine⟨trivial,?_⟩
 refine⟨⟨hok,hf⟩,?_⟩;refine⟨(fL c m now,fL c m now),?_⟩
 repeat first|refine⟨rfl,?_⟩|refine⟨trivial,?_⟩
 refine⟨⟨by show(fL c m now).length<=10000;omega,by show(fL c m now).length<=10000;omega⟩,?_⟩;refine ah.2 ⟨fun _=>?_,fun h=>absurd (show decide (fL c m now=fL c m now)=false from h) (by simp)⟩;refine⟨(c,(none:Mp),now),?_⟩
 repeat first|refine⟨rfl,?_⟩|refine⟨trivial,?_⟩
 refine⟨⟨trivial,MX hf.rules⟩,?_⟩;refine ax (fun _=>?_) fun h=>?_;rotate_left
 . have h:(Int.ofNat (fL c ⟨[],[],[]⟩ now).length==0)=false:=h;rw[V7]at h
   cases h
 refine⟨(),?_⟩
 repeat first|refine⟨rfl,?_⟩|refine⟨trivial,?_⟩
 repeat' first|exact trivial|exact rfl|refine ax (fun _=>?_) fun _=>?_|apply And.intro
end
end
theorem TL {c:ar} {l:List af} {r:bG} {rv ev:Value} {now:Int} {w:World} (hr:dN w c rv) (hv:eJ w l ev) (ha:∀w,Calls Tryz.prog 8 #[] w fun e w'=>e= .returned (.bool true)/\Below w.heap.size w w'):
  Calls Tryz.prog 3 #[.agg #[.int .i64 c.aB, .int .i64 c.domain, .int .i64 c.total,rv,ev],kM r, .int .i64 now] w fun e w'=>e= .returned (.bool true)/\Below w.heap.size w w':=by
 obtain⟨ra,rk,rfl⟩:=hr.one;obtain⟨sa,sc,rfl⟩:=hv.one;obtain⟨W0,hW0⟩:∃W,w.alloc (.cells #[.int .i64 c.aB, .int .i64 c.domain, .int .i64 c.total, .slice ra c.rules.length rk, .slice sa l.length sc] 27)=W:=⟨_,rfl⟩;have s0:W0.heap.size=w.heap.size+1:=by rw[<-hW0];exact DG _
 obtain⟨W,hW⟩:∃W,W0.alloc (.cells #[.string ⟨r.host.toArray⟩, .string ⟨r.path.toArray⟩, .bool r.aM, .bool r.ep] 29)=W:=⟨_,rfl⟩;have hb0:Below w.heap.size w W0:=by rw[<-hW0];exact(Below.refl _ _).alloc (Ac _) _
 have hb01:Below W0.heap.size W0 W:=by rw[<-hW];exact(Below.refl _ _).alloc (Ac _) _
 have hbW:Below w.heap.size w W:=hb0.trans (hb01.mono hb0.size);have hbb0:W0.heap[w.heap.size]? =some (.cells #[.int .i64 c.aB, .int .i64 c.domain, .int .i64 c.total, .slice ra c.rules.length rk, .slice sa l.length sc] 27 (0,0)):=by rw[<-hW0];grind [World.alloc_heap_new]
 have hbb:W.heap[w.heap.size]? =some (.cells #[.int .i64 c.aB, .int .i64 c.domain, .int .i64 c.total, .slice ra c.rules.length rk, .slice sa l.length sc] 27 (0,0)):=(hb01.block _ (by omega)).trans hbb0;have hbr:W.heap[w.heap.size+1]? =some (.cells #[.string ⟨r.host.toArray⟩, .string ⟨r.path.toArray⟩, .bool r.aM, .bool r.ep] 29 (0,0)):=by rw[<-s0,<-hW];grind [World.alloc_heap_new]
 have d0:=cell_of (o:=0) hbb;have d1:=cell_of (o:=1) hbb;have d2:=cell_of (o:=2) hbb;have d3:=cell_of (o:=3) hbb;have d4:=cell_of (o:=4) hbb;have q0:=cell_of (o:=0) hbr;have q1:=cell_of (o:=1) hbr;have q2:=cell_of (o:=2) hbr;have q3:=cell_of (o:=3) hbr;simp only[AX,A1,Bg]at d0 d1 d2 d3 d4 q0 q1 q2 q3;have hrW:=hr.cells (dJ hbW);have hvW:=hv.cells (dJ hbW);have hlight:=Tryz.cZ (r:=r) hrW hvW;refine xz Tryz.func3 rfl ?_;simp only[Tryz.ntmps3,Bb,AW,A7,Nat.reduceAdd,Nat.reduceSub,BN,BM,BZ,BR,Bq,BH];refine eF.next Tryz.func3 ?_;go_wp2;show eF _ _ _ _ _ _
 refine eF.next Tryz.func3 ?_
 cases hL:Go.Proofs.cZ c l r with
 |false=>
  rw[hL]at hlight;go_wp2_with (first|(go_at_call 7;refine hlight.mono ?_;rintro e w1 ⟨rfl,hb1⟩;have ha1:=ha w1)|(go_at_call 8;refine ha1.mono ?_;rintro e w2 ⟨rfl,hb2⟩))
  refine E0 (results_tmp rfl _ _ _) rfl ?_;exact⟨rfl,(hbW.trans (hb1.mono hbW.size)).trans (hb2.mono (Av hbW.size hb1.size))⟩
 |true=>
  rw[hL]at hlight;have hL2:(mH c=true/\nr r=true)/\(bT (Int.ofNat l.length) 30&&l.all jE)=true:=by
    grind [Go.Proofs.cZ]
  obtain⟨hl30,hlt⟩:= @Gq ⟨⟨True,#[]⟩⟩ l hL2.2;go_wp2_with (first|(go_at_call 7;refine hlight.mono ?_;rintro e w1 ⟨rfl,hb1⟩))
  show eF _ _ _ _ _ _
  refine eF.next Tryz.func3 ?_;have hbb1:=(hb1.block _ (Ab.1 hbb).1).trans hbb;have hbr1:=(hb1.block _ (Ab.1 hbr).1).trans hbr;have c4:=eo d4 (hb1.block _ (iB d4));have hr1:=hrW.cells (dJ hb1);have hv1:=hvW.cells (dJ hb1);have hmade:=C3 hv1 hlt hl30;clear hlight d0 d1 d2 d3 d4 q0 q1 q2 q3 hW hW0;go_wp2_with (first|(go_at_call 9;refine hmade.mono ?_;rintro e w2 ⟨b,bk,ba,bd,bs,bv,G,u,rfl,hO,hg,⟨vc,vk,vd,rfl,hm1,hm2,hm3⟩,hb2⟩;obtain⟨ca,na,pa,rfl⟩:=hm1.one;obtain⟨ck,pk,rfl⟩:=hm2.one;obtain⟨cd,nd,pd,rfl⟩:=hm3.one;obtain⟨W1,W2,W3,e1,e2,e3,c0,f0,c1,f1,c2,f2,hbx,hbel⟩:=Ho w2 (.slice ca na pa) (.slice ck (foldM l).kept.length pk) (.slice cd nd pd)))
  show eF _ _ _ _ _ _
  have hbd:dV (foldM l) l.length:=by
    have hb:= @qh ⟨⟨True,#[]⟩⟩ l hlt.2 l.length (Ac _);rwa [A6]at hb
  have hok:fQ (foldM l):= @dV.ok ⟨⟨True,#[]⟩⟩ _ _ hbd (by omega);have hO3:=hO.below hbel;have hS:=xp hO3 hg hlt;have hst12:=dJ hb2;have hst:=(dJ hbel);have hr3:=(hr1.cells hst12).cells hst;have hv3:=(hv1.cells hst12).cells hst;have hbb3:=(hbel.block _ (AE (Ab.1 hbb1).1 hb2.size)).trans ((hb2.block _ (Ab.1 hbb1).1).trans hbb1);have hbr3:=(hbel.block _ (AE (Ab.1 hbr1).1 hb2.size)).trans ((hb2.block _ (Ab.1 hbr1).1).trans hbr1);have hB1:Below w.heap.size w w1:=hbW.trans (hb1.mono hbW.size);have hB2:Below w.heap.size w w2:=hB1.trans (hb2.mono hB1.size);have hB3:Below w.heap.size w W3:=hB2.trans (hbel.mono hB2.size);have u1:=hm1.cells hst;have u2:=hm2.cells hst;have u3:=hm3.cells hst;letI:Inhabited aK:=oH W3
  have hlaw:=qx7 (l:=l) (now:=now) hok hS (yA hg hlt hl30 hL2.1.1) (FJ hL2.1.2);refine eF.mono (Ci (n:=2000) (c:=spine 3 (Tryz.f3.body.getD .skip)) bh rfl (ZN (ry W3) (Hp (ry W3) ha)) rfl hlaw ?_ (yo W3)) ?_
  . exact .cons rfl (.int _ _) (FA rfl hbb3 hr3 hv3 (FC rfl hbr3 (.cons rfl (.wp _) (FB rfl hbx u1 u2 u3 .nil))))
  . rintro e w' ⟨rfl,hb'⟩;exact⟨rfl,hB3.trans (hb'.mono hB3.size)⟩
section
def ug:aG:=⟨[110],[97,46,116,101,115,116],[47]⟩
def qL:af:=⟨⟨0,1,1⟩,⟨0,0,0⟩,1,ug,⟨[118],true,false,false,false,1099511627776,0,0⟩,[]⟩
def mS:List af:=[qL]
def fN:ar:=⟨1,5,9,[]⟩
def gk:bG:=⟨[97,46,116,101,115,116],[47,120],false,false⟩
def uh:ab:=⟨ug,qL.aa⟩
theorem Ql:fQ oF:=⟨by decide,fun x hx=>(by cases hx),by decide,by decide⟩
theorem qxj:jF gk:=⟨by decide,by decide⟩
theorem Mf:rH mS:=⟨by decide,by decide+kernel⟩
theorem WL:bF fN false (foldM mS) gk 5=([uh],0):=by kernel_rfl
theorem Y0:gK fN false (foldM mS) gk 5=([⟨1,zt uh 5,[⟨0,1,1⟩]⟩],0):=by kernel_rfl
section
variable [Inhabited aK]
noncomputable def Jc (f:FuncId):Option aL:=bif Nat.beq f sA then some Fu else bif Nat.beq f pX then some H9 else bu f
theorem ZM (hdr:¬(default:aK).dr):∀f C,Jc f=some C->CO f C:=bg (L7 hdr) (bg (Pd hdr) eX)
theorem qx6 {b:Nat} {m:aP} {x:bD} {y:ab} (hS:cT b m) (hf:ib fN m) (hI:bF fN false m gk 5=([y],0)) (ht:iW [y]=[110,61,118]) (hP:gK fN false m gk 5=([x],0)) (hx:x.item.aa.access=5):wp (bL Jc (fun _ _=>none)) 2000
   ⟨lA,56,0,[.code (spine 3 (Tryz.f8.body.getD .skip))],⟨[(1, .wp ⟨b,0,none⟩)],⟨0,[]⟩,[]⟩⟩ sJ:=by
 have hpre:lW (fN,some (b,m),gk,5):=⟨hS,hf,qxj⟩;have e1:iW (bF fN false m gk 5).1=[110,61,118]:=by rw[hI];exact ht
 have e2:(bF fN false m gk 5).2=0:=by rw[hI]
 have e3:(gK fN false m gk 5).2=0:=by rw[hP]
 have e4:(gK fN false m gk 5).1=[x]:=by rw[hP]
 refine⟨(fN,(some (b,m):Mp),gk,5),?_⟩
 repeat first|refine⟨rfl,?_⟩|refine⟨trivial,?_⟩
 refine⟨hpre,?_⟩;refine⟨(fN,(some (b,m):Mp),gk,5),?_⟩
 repeat first|refine⟨rfl,?_⟩|refine⟨trivial,?_⟩
 refine⟨hpre,?_⟩
 (conv=>whnf)
 refine ax (fun _=>?_) fun h=>?_;rotate_left
 . have h:(iW (bF fN false m gk 5).1==[110,61,118])=false:=h;rw[e1]at h;cases h
 (conv=>whnf)
 refine ax (fun _=>?_) fun h=>?_;rotate_left
 . have h:((gK fN false m gk 5).2==0)=false:=h;rw[e3]at h;cases h
 (conv=>whnf)
 refine ax (fun _=>?_) fun h=>?_;rotate_left
 . have h:(Int.ofNat (gK fN false m gk 5).1.length==1)=false:=h;rw[e4]at h;cases h
 (conv=>whnf)
 refine aj.2 ⟨x,(show(gK fN false m gk 5).1[Int.toNat 0]? =some x from by rw[e4];rfl),?_⟩
 (conv=>whnf)
 show(bif true then x.item.aa.access==5 else false)=true
 rw[hx];rfl
end
theorem CL (w:World):Calls Tryz.prog 8 #[] w fun e w'=>e= .returned (.bool true)/\Below w.heap.size w w':=by
 refine xz Tryz.func8 rfl ?_;simp only[Tryz.ntmps8,Bb,AW,A7,Nat.reduceAdd,Nat.reduceSub,BN,BM,BZ,BR,Bq,BH];refine eF.next Tryz.func8 ?_;go_wp2;show eF _ _ _ _ _ _
 refine eF.next Tryz.func8 ?_;have hnew:=Kn w;go_wp2_with (go_at_call 26;refine hnew.mono ?_;rintro e w1 ⟨b,bk,ba,bd,bs,bv,rfl,hO,hb1⟩)
 show eF _ _ _ _ _ _
 have happ1:=Tryz.apply hO cV.start hb1.size (e:=qL) (u:=(.agg #[.int .i64 0, .int .i64 1, .int .i64 1, .int .i64 0, .int .i64 0, .int .i64 0, .int .i64 1, .string ⟨#[110]⟩, .string ⟨#[97,46,116,101,115,116]⟩, .string ⟨#[47]⟩, .string ⟨#[118]⟩, .bool true, .bool false, .bool false, .bool false, .int .i64 1099511627776, .int .i64 0, .int .i64 0, .slice none 0 0])) ⟨.slice none 0 0,rfl, .inl ⟨rfl,none,0,rfl⟩⟩ ⟨by decide,by decide⟩ (by decide) Ql;refine eF.next Tryz.func8 ?_;go_wp2_with (go_at_call 23;refine happ1.mono ?_;rintro e w2 ⟨rfl,hb2,hc2,G2,hO2,hg2⟩)
 show eF _ _ _ _ _ _
 have hS:=xp (l:=mS) hO2 hg2 Mf;have hf:ib fN (foldM mS):=yA hg2 Mf (by decide) (by decide);letI:Inhabited aK:=oH w2
 refine eF.mono (Ci (n:=2000) (c:=spine 3 (Tryz.f8.body.getD .skip)) bh rfl (ZM (ry w2)) rfl (qx6 hS hf WL (by decide+kernel) Y0 rfl) ?_ (yo w2)) ?_
 . exact .cons rfl (.wp _) .nil
 . rintro e w' ⟨rfl,hb'⟩;exact⟨rfl,(hb1.trans hb2).trans (hb'.mono (Av hb1.size hb2.size))⟩
end
end Go.Proofs
namespace Go.Proofs
open Go Go.Am Go.RowKit Go.Sy
section
section
variable [Inhabited aK]
def PW:aL:={Y:=ar×aP×bG×Int,pre:=fun y=>fQ y.2.1/\ib y.1 y.2.1/\jF y.2.2.1,args:=fun y=>[.agg y.1.enc, .agg y.2.1.enc, .agg y.2.2.1.enc,i64 y.2.2.2],res:=fun y=> .bO [kf (gK y.1 false y.2.1 y.2.2.1 y.2.2.2).1,i64 (gK y.1 false y.2.1 y.2.2.1 y.2.2.2).2]}
def Qq (y:ar×aP×bG×Int):aJ:=let l:=(bF y.1 false y.2.1 y.2.2.1 y.2.2.2).1;{α:=Nat,ok:=fun i=>i<=l.length,μ:=fun i=>l.length - i,aV:=[3,5],aO:=fun i=>[(10,items l),(12, .own 3),(13,i64 i)],bm:=fun i=>[(3, .arr bD (fi y.2.1 y.2.2.2 (l.take i)) bD.enc C4)]}
theorem qyP (hdr:¬(default:aK).dr):CO Im PW:=bB (cfg:=fun(y:ar×aP×bG×Int)=>Jb HG (cu Im 6 (Qq y))) bh (fun _=>rfl) (fun _=>Nt hdr) (n:=900) (by
 rintro⟨c,m,r,now⟩ ⟨h1,h2,h3⟩;have h1:fQ m:=h1;have h2:ib c m:=h2;have h3:jF r:=h3;obtain⟨hl,hmem⟩:=h2.items false r now;refine⟨(c,m,r,now),?_⟩
 repeat first|refine⟨rfl,?_⟩|refine⟨trivial,?_⟩
 refine⟨⟨h1,h2,h3⟩,?_⟩;refine ax (fun h=>?_) fun h=>?_
 . have h:(!((bF c false m r now).2==0))=true:=h;have e:gK c false m r now=([],(bF c false m r now).2):=by grind [gK]
   refine⟨?_,?_⟩
   . grind
   refine⟨?_,trivial⟩;grind
 have h:(!((bF c false m r now).2==0))=false:=h;have e:gK c false m r now=if(fo (fi m now (bF c false m r now).1)&&decide (m.kept.length+(fi m now (bF c false m r now).1).length<=2048))=true then(fi m now (bF c false m r now).1,0)else([],9):=by grind [gK]
 have hdl:∀k,(l9 m k).length<=50000:=fun k=>by grind [l9,tz]
 refine⟨⟨(0:Nat),Ao _,?_⟩,?_⟩
 . repeat' first|exact trivial|exact rfl|refine ax (fun _=>?_) fun _=>?_|apply And.intro
   all_goals (try exact aj.2 ⟨_,rfl,ae.2 ⟨rfl,fun _=>rfl⟩⟩)
 intro (x:Nat) hx;have hx:x<=(bF c false m r now).1.length:=hx;have hpl:=Oz m now (bF c false m r now).1 x;refine ax (fun hlt=>?_) fun hge=>?_
 . have hlt':x<(bF c false m r now).1.length:=cm hlt;have hn:=M4 (m:=m) (now:=now) hlt';have mu:(bF c false m r now).1.length - (x+1)<(bF c false m r now).1.length - x:=by omega
   (conv=>whnf)
   refine aj.2 ⟨_,cp hlt',?_⟩;refine ax (fun o=>?_) fun o=>?_
   . have o:aZ (bF c false m r now).1[x].aa.access now=true:=o;have o:iA now (bF c false m r now).1[x]=true:=by grind [iA,bM]
     rw[An o]at hn;refine⟨(m,(bF c false m r now).1[x].key),?_⟩
     repeat first|refine⟨rfl,?_⟩|refine⟨trivial,?_⟩
     refine⟨h1,?_⟩;refine⟨wA m now (bF c false m r now).1[x],rfl,?_⟩
     (conv=>whnf)
     refine ae.2 ⟨uj _ (by grind),?_⟩
     (conv=>whnf)
     refine ae.2 ⟨cj x (by omega),?_⟩;refine⟨(x+1:Nat),hlt',mu,?_⟩
     repeat' first|exact trivial|exact rfl|refine ax (fun _=>?_) fun _=>?_|apply And.intro
     all_goals ((conv=>whnf);grind)
   . have o:aZ (bF c false m r now).1[x].aa.access now=false:=o;have o:iA now (bF c false m r now).1[x]=false:=by grind [iA,bM]
     rw[Al (by simp[o]),Br]at hn
     (conv=>whnf)
     refine ae.2 ⟨cj x (by omega),?_⟩;refine⟨(x+1:Nat),hlt',mu,?_⟩
     repeat' first|exact trivial|exact rfl|refine ax (fun _=>?_) fun _=>?_|apply And.intro
     all_goals ((conv=>whnf);grind)
 . have hge':(bF c false m r now).1.length<=x:=gf hge;have hall:fi m now ((bF c false m r now).1.take x)=fi m now (bF c false m r now).1:=by rw[Aq hge']
   have hlf:lY (fi m now (bF c false m r now).1):=by
     rw[hall]at hpl;refine⟨by omega,fun d hd=>?_⟩;obtain⟨y,_,rfl⟩:=AL.1 hd;have:=hdl y.key;show(l9 m y.key).length<=100000
     omega
   refine⟨(m,fi m now (bF c false m r now).1),?_⟩
   repeat ((conv=>whnf);refine And.intro rfl ?_)
   refine⟨by grind,?_⟩;refine⟨⟨h1,hlf⟩,?_⟩;refine ax (fun q=>?_) fun q=>?_
   . have q:(!(fo (fi m now (bF c false m r now).1)&&decide (m.kept.length+(fi m now (bF c false m r now).1).length<=2048)))=true:=q;rw[A2]at q;rw[q,Al Bool.false_ne_true]at e;refine⟨?_,?_⟩
     . grind
     refine⟨?_,trivial⟩;grind
   . have q:(!(fo (fi m now (bF c false m r now).1)&&decide (m.kept.length+(fi m now (bF c false m r now).1).length<=2048)))=false:=q;rw[DY]at q;rw[q,An rfl]at e;refine⟨?_,?_⟩
     . grind
     refine⟨?_,trivial⟩;grind)
end
end
end Go.Proofs
namespace Go.Proofs
open Go Go.Am Go.RowKit Go.Sy Go.Gm Go.Maps Go.Sort Go.Shelf
section
theorem qvZ {c:ar} {m:aP} {r:bG} {now:Int} (hf:ib c m):qU (gK c false m r now).1:=by
 obtain⟨hl,_⟩:=hf.items false r now;unfold gK;split
 . split
   . rename_i h;rw[Ad]at h;refine⟨?_,fun d hd=>?_⟩
     . have h2:(fi m now (bF c false m r now).1).length<=(bF c false m r now).1.length:=by
        unfold fi;rw[Ba];exact AZ _ _
       show(fi m now (bF c false m r now).1).length<=100000
       omega
     . exact AN (AG.1 h.1 d hd)
   . exact⟨Ao _,fun d hd=>by cases hd⟩
 . exact⟨Ao _,fun d hd=>by cases hd⟩
section
variable [Inhabited aK]
noncomputable def Jg (f:FuncId):Option aL:=bif Nat.beq f lA then some rL else bif Nat.beq f pX then some H9 else bif Nat.beq f Im then some PW else bif Nat.beq f Il then some PZ else bu f
theorem ZQ (hdr:¬(default:aK).dr) (ha:CO lA rL):∀f C,Jg f=some C->CO f C:=bg ha (bg (Pd hdr) (bg (qyP hdr) (bg qyT eX)))
theorem qx8 {b:Nat} {c:ar} {m:aP} {l:List af} {r:bG} {now:Int} (hok:fQ m) (hS:cT b m) (hf:ib c m) (hr:jF r):
   wp (bL Jg (fun _ _=>none)) 2000 ⟨Tu,53,0,[.code (spine 3 (Tryz.f4.body.getD .skip))],⟨[(2,i64 now),(3, .cz (c.enc++[cG l]) 0),(4, .cz r.enc 0),(7, .wp ⟨b,0,none⟩),(8, .cz m.enc 0)],⟨0,[]⟩,[]⟩⟩ sJ:=by
 refine⟨(c,(some (b,m):Mp),r,now),?_⟩
 repeat first|refine⟨rfl,?_⟩|refine⟨trivial,?_⟩
 refine⟨⟨hS,hf,hr⟩,?_⟩;refine⟨(c,m,r,now),?_⟩
 repeat first|refine⟨rfl,?_⟩|refine⟨trivial,?_⟩
 refine⟨⟨hok,hf,hr⟩,?_⟩;refine ax (fun _=>?_) fun h=>?_;rotate_left
 . have h:((gK c false m r now).2==(gK c false m r now).2)=false:=h;simp at h
 refine⟨(gK c false m r now).1,?_⟩
 repeat first|refine⟨rfl,?_⟩|refine⟨trivial,?_⟩
 refine⟨qvZ hf,?_⟩;refine⟨(),?_⟩
 repeat first|refine⟨rfl,?_⟩|refine⟨trivial,?_⟩
 repeat' first|exact trivial|exact rfl|refine ax (fun _=>?_) fun _=>?_|apply And.intro
end
theorem TM {c:ar} {l:List af} {r:bG} {rv ev:Value} {now:Int} {w:World} (hr:dN w c rv) (hv:eJ w l ev) (ha:∀w,Calls Tryz.prog 8 #[] w fun e w'=>e= .returned (.bool true)/\Below w.heap.size w w'):
  Calls Tryz.prog 4 #[.agg #[.int .i64 c.aB, .int .i64 c.domain, .int .i64 c.total,rv,ev],kM r, .int .i64 now] w fun e w'=>e= .returned (.bool true)/\Below w.heap.size w w':=by
 obtain⟨ra,rk,rfl⟩:=hr.one;obtain⟨sa,sc,rfl⟩:=hv.one;obtain⟨W0,hW0⟩:∃W,w.alloc (.cells #[.int .i64 c.aB, .int .i64 c.domain, .int .i64 c.total, .slice ra c.rules.length rk, .slice sa l.length sc] 27)=W:=⟨_,rfl⟩;have s0:W0.heap.size=w.heap.size+1:=by rw[<-hW0];exact DG _
 obtain⟨W,hW⟩:∃W,W0.alloc (.cells #[.string ⟨r.host.toArray⟩, .string ⟨r.path.toArray⟩, .bool r.aM, .bool r.ep] 29)=W:=⟨_,rfl⟩;have hb0:Below w.heap.size w W0:=by rw[<-hW0];exact(Below.refl _ _).alloc (Ac _) _
 have hb01:Below W0.heap.size W0 W:=by rw[<-hW];exact(Below.refl _ _).alloc (Ac _) _
 have hbW:Below w.heap.size w W:=hb0.trans (hb01.mono hb0.size);have hbb0:W0.heap[w.heap.size]? =some (.cells #[.int .i64 c.aB, .int .i64 c.domain, .int .i64 c.total, .slice ra c.rules.length rk, .slice sa l.length sc] 27 (0,0)):=by rw[<-hW0];exact World.alloc_heap_new _ _
 have hbb:W.heap[w.heap.size]? =some (.cells #[.int .i64 c.aB, .int .i64 c.domain, .int .i64 c.total, .slice ra c.rules.length rk, .slice sa l.length sc] 27 (0,0)):=(hb01.block _ (by omega)).trans hbb0;have hbr:W.heap[w.heap.size+1]? =some (.cells #[.string ⟨r.host.toArray⟩, .string ⟨r.path.toArray⟩, .bool r.aM, .bool r.ep] 29 (0,0)):=by rw[<-s0,<-hW];exact World.alloc_heap_new _ _
 have d0:=cell_of (o:=0) hbb;have d1:=cell_of (o:=1) hbb;have d2:=cell_of (o:=2) hbb;have d3:=cell_of (o:=3) hbb;have d4:=cell_of (o:=4) hbb;have q0:=cell_of (o:=0) hbr;have q1:=cell_of (o:=1) hbr;have q2:=cell_of (o:=2) hbr;have q3:=cell_of (o:=3) hbr;simp only[AX,A1,Bg]at d0 d1 d2 d3 d4 q0 q1 q2 q3;have hrW:=hr.cells (dJ hbW);have hvW:=hv.cells (dJ hbW);have hlight:=Tryz.cZ (r:=r) hrW hvW;refine xz Tryz.func4 rfl ?_;simp only[Tryz.ntmps4,Bb,AW,A7,Nat.reduceAdd,Nat.reduceSub,BN,BM,BZ,BR,Bq,BH];refine eF.next Tryz.func4 ?_;go_wp2;show eF _ _ _ _ _ _
 refine eF.next Tryz.func4 ?_
 cases hL:Go.Proofs.cZ c l r with
 |false=>
  rw[hL]at hlight;go_wp2_with (first|(go_at_call 7;refine hlight.mono ?_;rintro e w1 ⟨rfl,hb1⟩;have ha1:=ha w1)|(go_at_call 8;refine ha1.mono ?_;rintro e w2 ⟨rfl,hb2⟩))
  refine E0 (results_tmp rfl _ _ _) rfl ?_;exact⟨rfl,(hbW.trans (hb1.mono hbW.size)).trans (hb2.mono (Av hbW.size hb1.size))⟩
 |true=>
  rw[hL]at hlight;have hL2:(mH c=true/\nr r=true)/\(bT (Int.ofNat l.length) 30&&l.all jE)=true:=by
    unfold Go.Proofs.cZ at hL;rw[Ad,Ad]at hL;exact hL
  obtain⟨hl30,hlt⟩:= @Gq ⟨⟨True,#[]⟩⟩ l hL2.2;go_wp2_with (first|(go_at_call 7;refine hlight.mono ?_;rintro e w1 ⟨rfl,hb1⟩))
  show eF _ _ _ _ _ _
  refine eF.next Tryz.func4 ?_;have hbb1:=(hb1.block _ (Ab.1 hbb).1).trans hbb;have hbr1:=(hb1.block _ (Ab.1 hbr).1).trans hbr;have c4:=eo d4 (hb1.block _ (iB d4));have hr1:=hrW.cells (dJ hb1);have hv1:=hvW.cells (dJ hb1);have hmade:=C3 hv1 hlt hl30;clear hlight d0 d1 d2 d3 d4 q0 q1 q2 q3 hW hW0;go_wp2_with (first|(go_at_call 9;refine hmade.mono ?_;rintro e w2 ⟨b,bk,ba,bd,bs,bv,G,u,rfl,hO,hg,⟨vc,vk,vd,rfl,hm1,hm2,hm3⟩,hb2⟩;obtain⟨ca,na,pa,rfl⟩:=hm1.one;obtain⟨ck,pk,rfl⟩:=hm2.one;obtain⟨cd,nd,pd,rfl⟩:=hm3.one;obtain⟨W1,W2,W3,e1,e2,e3,c0,f0,c1,f1,c2,f2,hbx,hbel⟩:=Ho w2 (.slice ca na pa) (.slice ck (foldM l).kept.length pk) (.slice cd nd pd)))
  show eF _ _ _ _ _ _
  have hbd:dV (foldM l) l.length:=by
    have hb:= @qh ⟨⟨True,#[]⟩⟩ l hlt.2 l.length (Ac _);rwa [A6]at hb
  have hok:fQ (foldM l):= @dV.ok ⟨⟨True,#[]⟩⟩ _ _ hbd (by omega);have hO3:=hO.below hbel;have hS:=xp hO3 hg hlt;have hst12:=dJ hb2;have hst:=(dJ hbel);have hr3:=(hr1.cells hst12).cells hst;have hv3:=(hv1.cells hst12).cells hst;have hbb3:=(hbel.block _ (AE (Ab.1 hbb1).1 hb2.size)).trans ((hb2.block _ (Ab.1 hbb1).1).trans hbb1);have hbr3:=(hbel.block _ (AE (Ab.1 hbr1).1 hb2.size)).trans ((hb2.block _ (Ab.1 hbr1).1).trans hbr1);have hB1:Below w.heap.size w w1:=hbW.trans (hb1.mono hbW.size);have hB2:Below w.heap.size w w2:=hB1.trans (hb2.mono hB1.size);have hB3:Below w.heap.size w W3:=hB2.trans (hbel.mono hB2.size);have u1:=hm1.cells hst;have u2:=hm2.cells hst;have u3:=hm3.cells hst;letI:Inhabited aK:=oH W3
  have hlaw:=qx8 (l:=l) (now:=now) hok hS (yA hg hlt hl30 hL2.1.1) (FJ hL2.1.2);refine eF.mono (Ci (n:=2000) (c:=spine 3 (Tryz.f4.body.getD .skip)) bh rfl (ZQ (ry W3) (Hp (ry W3) ha)) rfl hlaw ?_ (yo W3)) ?_
  . exact .cons rfl (.int _ _) (FA rfl hbb3 hr3 hv3 (FC rfl hbr3 (.cons rfl (.wp _) (FB rfl hbx u1 u2 u3 .nil))))
  . rintro e w' ⟨rfl,hb'⟩;exact⟨rfl,hB3.trans (hb'.mono hB3.size)⟩
end
section
theorem Zi {l:List ab} (hk:KN l) {x:ab} (hx:x∈l):fE l x.key=(x,true):=by
 unfold fE
 cases h:l.find? fun y=>decide (y.key=x.key)with
 |none=>
  have:=DX.1 h x hx;simp at this
 |some y=>
  have h1:=List.find?_some h;have h2:=Eo h;rw[KN.inj hk h2 hx (AN h1)]
theorem Yc {l:List ab} (hk:KN l) {r:bG} {now:Int} {i:Nat} (h:i+1<(kK l r now).length):gu ((kK l r now)[i]'(by omega)) (kK l r now)[i+1]=true:=by
 have hs:=EO (mM l r now) [] List.Pairwise.nil;have hs:(kK l r now).Pairwise fun a b=>gu b a=false:=hs
 have h1:=AJ.1 hs i (i+1) (by omega) h (by omega);have hkp:KN (kK l r now):=by
  have h2:KN (mM l r now):=hk.sub Be;unfold KN at h2⊢;exact((FO l r now).map _).nodup_iff.2 h2
 cases hb:gu ((kK l r now)[i]'(by omega)) (kK l r now)[i+1]with
 |true=>rfl
 |false=>
  have he:=Ms hb h1;have hn:=Db.1 hkp;rw[Di]at hn;exact absurd he (AJ.1 hn i (i+1) (by omega) h (by omega))
section
variable [Inhabited aK]
noncomputable def Je (f:FuncId):Option aL:=bif Nat.beq f lA then some rL else bif Nat.beq f nQ then some vG else bif Nat.beq f pY then some zo else bif Nat.beq f ml then some zk else bif Nat.beq f Ie then some wk else bif Nat.beq f sC then some GG else bu f
theorem ZO (hdr:¬(default:aK).dr) (ha:CO lA rL):∀f C,Je f=some C->CO f C:=bg ha (bg (x7 hdr) (bg (G9 hdr) (bg O8 (bg O9 (bg Mm eX)))))
def QI (L S:List ab):aJ:={α:=Nat,ok:=fun i=>i<=L.length,μ:=fun i=>L.length - i,aV:=[2,4],aO:=fun i=>[(9,items L),(11,items S),(12,i64 i)],bm:=fun _=>[]}
theorem Rv {b:Nat} {c:ar} {m:aP} {l:List af} {r:bG} {now:Int} (hS:cT b m) (hf:ib c m) (hr:jF r):
   wp (bL Je (cu xf 9 (QI (bF c false m r now).1 (fL c m now)))) 2000 ⟨xf,99,0,[.code (spine 3 (Tryz.f5.body.getD .skip))],⟨[(2,i64 now),(3, .cz (c.enc++[cG l]) 0),(4, .cz r.enc 0),(7, .wp ⟨b,0,none⟩),(8, .cz m.enc 0)],⟨0,[]⟩,[]⟩⟩ sJ:=by
 have hsl:(fL c m now).length<=30:=Av dX.length_le hf.len;obtain⟨hl,_⟩:=hf.items false r now;have hkn:KN (fL c m now):=(FR hf.rR).sub dX;refine⟨(c,(some (b,m):Mp),r,now),?_⟩
 repeat first|refine⟨rfl,?_⟩|refine⟨trivial,?_⟩
 refine⟨⟨hS,hf,hr⟩,?_⟩;refine⟨(c,(some (b,m):Mp),now),?_⟩
 repeat first|refine⟨rfl,?_⟩|refine⟨trivial,?_⟩
 refine⟨⟨hS,hf⟩,?_⟩;refine ax (fun h=>?_) fun h=>?_
 . have h:(!((bF c false m r now).2==0))=true:=h;have e:(bF c false m r now).1=[]:=by
     unfold bF at h⊢;split at h
     . simp at h
     . rename_i h2;rw[Al h2]
   refine ax (fun _=>?_) fun h2=>?_
   . (conv=>whnf)
     refine⟨(),?_⟩
     repeat first|refine⟨rfl,?_⟩|refine⟨trivial,?_⟩
     repeat' first|exact trivial|exact rfl|refine ax (fun _=>?_) fun _=>?_|apply And.intro
   . have h2:(Int.ofNat (bF c false m r now).1.length==0)=false:=h2;rw[e]at h2;cases h2
 have h:(!((bF c false m r now).2==0))=false:=h;have e:(bF c false m r now).1=kK (fL c m now) r now:=by
   unfold bF at h⊢;split at h
   . rename_i h2;rw[An h2]
   . rename_i h2;simp at h;exact absurd h h2
 refine⟨⟨(0:Nat),Ao _,?_⟩,?_⟩
 . repeat' first|exact trivial|exact rfl|refine ax (fun _=>?_) fun _=>?_|apply And.intro
 intro (x:Nat) hx;have hx:x<=(bF c false m r now).1.length:=hx;refine ax (fun hlt=>?_) fun hge=>?_;rotate_left
 . (conv=>whnf)
   refine⟨(),?_⟩
   repeat first|refine⟨rfl,?_⟩|refine⟨trivial,?_⟩
   repeat' first|exact trivial|exact rfl|refine ax (fun _=>?_) fun _=>?_|apply And.intro
 have hlt':x<(bF c false m r now).1.length:=cm hlt;have mu:(bF c false m r now).1.length - (x+1)<(bF c false m r now).1.length - x:=by omega
 have hmem:(bF c false m r now).1[x]∈fL c m now/\jw (bF c false m r now).1[x] r now=true:=by
   have:=AF hlt';generalize (bF c false m r now).1[x]=y at this⊢
   rw[e]at this;exact Oy this
 have hfd:fE (fL c m now) (bF c false m r now).1[x].key=((bF c false m r now).1[x],true):=Zi hkn hmem.1;have hbf0:∀L:List ab,L=kK (fL c m now) r now->∀k (hk:k+1<L.length),gu (L[k]'(by omega)) L[k+1]=true:=by
   rintro L rfl k hk;exact Yc hkn hk
 have hbf:=hbf0 _ e;have hit:nf (bF c false m r now).1[x]:=by
   have:=hf.names _ (dX.subset hmem.1);exact⟨this.2.1,this.2.2.1⟩
 (conv=>whnf)
 refine aj.2 ⟨_,cp hlt',?_⟩;refine⟨(fL c m now,(bF c false m r now).1[x].key),?_⟩
 repeat first|refine⟨rfl,?_⟩|refine⟨trivial,?_⟩
 refine⟨by show(fL c m now).length<=10000;omega,?_⟩;refine ax (fun q=>?_) fun q=>?_
 . have q:(!(fE (fL c m now) (bF c false m r now).1[x].key).2)=true:=q;rw[hfd]at q;cases q
 (conv=>whnf)
 refine aj.2 ⟨_,cp hlt',?_⟩;refine ax (fun q=>?_) fun q=>?_
 . exfalso;simp[hfd]at q
 refine⟨((fE (fL c m now) (bF c false m r now).1[x].key).1,r,now),?_⟩
 repeat first|refine⟨rfl,?_⟩|refine⟨trivial,?_⟩
 refine⟨⟨by rw[hfd];exact hit,hr⟩,?_⟩;refine ax (fun q=>?_) fun q=>?_
 . have q:(!jw (fE (fL c m now) (bF c false m r now).1[x].key).1 r now)=true:=q;rw[hfd]at q;simp[hmem.2]at q
 refine ax (fun z=>?_) fun z=>?_
 . have z:aZ 0 (x:Int)=true:=z;rw[bM,Aa]at z;obtain⟨k,rfl⟩:∃k,x=k+1:=⟨x - 1,by omega⟩;have ek:Int.toNat (((k+1:Nat):Int) - 1)=k:=by omega
   (conv=>whnf)
   refine ae.2 ⟨by rw[fT];omega,?_⟩
   (conv=>whnf)
   refine ae.2 ⟨by rw[kt,Aa];omega,?_⟩
   (conv=>whnf)
   refine aj.2 ⟨(bF c false m r now).1[k]'(by omega),(show(bF c false m r now).1[Int.toNat (((k+1:Nat):Int) - 1)]? =some ((bF c false m r now).1[k]'(by omega))from by rw[ek];exact Ai (by omega)),?_⟩
   (conv=>whnf)
   refine aj.2 ⟨_,cp hlt',?_⟩;refine⟨((bF c false m r now).1[k]'(by omega),(bF c false m r now).1[k+1]),?_⟩
   repeat first|refine⟨rfl,?_⟩|refine⟨trivial,?_⟩
   refine ax (fun q=>?_) fun q=>?_
   . have q:(!gu ((bF c false m r now).1[k]'(by omega)) (bF c false m r now).1[k+1])=true:=q;rw[hbf k hlt']at q;cases q
   (conv=>whnf)
   refine ae.2 ⟨cj (k+1) (by omega),?_⟩;refine⟨(k+1+1:Nat),hlt',mu,?_⟩
   repeat' first|exact trivial|exact rfl|refine ax (fun _=>?_) fun _=>?_|apply And.intro
 . (conv=>whnf)
   refine ae.2 ⟨cj x (by omega),?_⟩;refine⟨(x+1:Nat),hlt',mu,?_⟩
   repeat' first|exact trivial|exact rfl|refine ax (fun _=>?_) fun _=>?_|apply And.intro
end
theorem S6 {c:ar} {l:List af} {r:bG} {rv ev:Value} {now:Int} {w:World} (hr:dN w c rv) (hv:eJ w l ev) (ha:∀w,Calls Tryz.prog 8 #[] w fun e w'=>e= .returned (.bool true)/\Below w.heap.size w w'):
  Calls Tryz.prog 5 #[.agg #[.int .i64 c.aB, .int .i64 c.domain, .int .i64 c.total,rv,ev],kM r, .int .i64 now] w fun e w'=>e= .returned (.bool true)/\Below w.heap.size w w':=by
 obtain⟨ra,rk,rfl⟩:=hr.one;obtain⟨sa,sc,rfl⟩:=hv.one;obtain⟨W0,hW0⟩:∃W,w.alloc (.cells #[.int .i64 c.aB, .int .i64 c.domain, .int .i64 c.total, .slice ra c.rules.length rk, .slice sa l.length sc] 27)=W:=⟨_,rfl⟩;have s0:W0.heap.size=w.heap.size+1:=by rw[<-hW0];exact DG _
 obtain⟨W,hW⟩:∃W,W0.alloc (.cells #[.string ⟨r.host.toArray⟩, .string ⟨r.path.toArray⟩, .bool r.aM, .bool r.ep] 29)=W:=⟨_,rfl⟩;have hb0:Below w.heap.size w W0:=by rw[<-hW0];exact(Below.refl _ _).alloc (Ac _) _
 have hb01:Below W0.heap.size W0 W:=by rw[<-hW];exact(Below.refl _ _).alloc (Ac _) _
 have hbW:Below w.heap.size w W:=hb0.trans (hb01.mono hb0.size);have hbb0:W0.heap[w.heap.size]? =some (.cells #[.int .i64 c.aB, .int .i64 c.domain, .int .i64 c.total, .slice ra c.rules.length rk, .slice sa l.length sc] 27 (0,0)):=by rw[<-hW0];exact World.alloc_heap_new _ _
 have hbb:W.heap[w.heap.size]? =some (.cells #[.int .i64 c.aB, .int .i64 c.domain, .int .i64 c.total, .slice ra c.rules.length rk, .slice sa l.length sc] 27 (0,0)):=(hb01.block _ (by omega)).trans hbb0;have hbr:W.heap[w.heap.size+1]? =some (.cells #[.string ⟨r.host.toArray⟩, .string ⟨r.path.toArray⟩, .bool r.aM, .bool r.ep] 29 (0,0)):=by rw[<-s0,<-hW];exact World.alloc_heap_new _ _
 have d0:=cell_of (o:=0) hbb;have d1:=cell_of (o:=1) hbb;have d2:=cell_of (o:=2) hbb;have d3:=cell_of (o:=3) hbb;have d4:=cell_of (o:=4) hbb;have q0:=cell_of (o:=0) hbr;have q1:=cell_of (o:=1) hbr;have q2:=cell_of (o:=2) hbr;have q3:=cell_of (o:=3) hbr;simp only[AX,A1,Bg]at d0 d1 d2 d3 d4 q0 q1 q2 q3;have hrW:=hr.cells (dJ hbW);have hvW:=hv.cells (dJ hbW);have hlight:=Tryz.cZ (r:=r) hrW hvW;refine xz Tryz.func5 rfl ?_;simp only[Tryz.ntmps5,Bb,AW,A7,Nat.reduceAdd,Nat.reduceSub,BN,BM,BZ,BR,Bq,BH];refine eF.next Tryz.func5 ?_;go_wp2;show eF _ _ _ _ _ _
 refine eF.next Tryz.func5 ?_
 cases hL:Go.Proofs.cZ c l r with
 |false=>
  rw[hL]at hlight;go_wp2_with (first|(go_at_call 7;refine hlight.mono ?_;rintro e w1 ⟨rfl,hb1⟩;have ha1:=ha w1)|(go_at_call 8;refine ha1.mono ?_;rintro e w2 ⟨rfl,hb2⟩))
  refine E0 (results_tmp rfl _ _ _) rfl ?_;exact⟨rfl,(hbW.trans (hb1.mono hbW.size)).trans (hb2.mono (Av hbW.size hb1.size))⟩
 |true=>
  rw[hL]at hlight;have hL2:(mH c=true/\nr r=true)/\(bT (Int.ofNat l.length) 30&&l.all jE)=true:=by
    unfold Go.Proofs.cZ at hL;rw[Ad,Ad]at hL;exact hL
  obtain⟨hl30,hlt⟩:= @Gq ⟨⟨True,#[]⟩⟩ l hL2.2;go_wp2_with (first|(go_at_call 7;refine hlight.mono ?_;rintro e w1 ⟨rfl,hb1⟩))
  show eF _ _ _ _ _ _
  refine eF.next Tryz.func5 ?_;have hbb1:=(hb1.block _ (Ab.1 hbb).1).trans hbb;have hbr1:=(hb1.block _ (Ab.1 hbr).1).trans hbr;have c4:=eo d4 (hb1.block _ (iB d4));have hr1:=hrW.cells (dJ hb1);have hv1:=hvW.cells (dJ hb1);have hmade:=C3 hv1 hlt hl30;clear hlight d0 d1 d2 d3 d4 q0 q1 q2 q3 hW hW0;go_wp2_with (first|(go_at_call 9;refine hmade.mono ?_;rintro e w2 ⟨b,bk,ba,bd,bs,bv,G,u,rfl,hO,hg,⟨vc,vk,vd,rfl,hm1,hm2,hm3⟩,hb2⟩;obtain⟨ca,na,pa,rfl⟩:=hm1.one;obtain⟨ck,pk,rfl⟩:=hm2.one;obtain⟨cd,nd,pd,rfl⟩:=hm3.one;obtain⟨W1,W2,W3,e1,e2,e3,c0,f0,c1,f1,c2,f2,hbx,hbel⟩:=Ho w2 (.slice ca na pa) (.slice ck (foldM l).kept.length pk) (.slice cd nd pd)))
  show eF _ _ _ _ _ _
  have hbd:dV (foldM l) l.length:=by
    have hb:= @qh ⟨⟨True,#[]⟩⟩ l hlt.2 l.length (Ac _);rwa [A6]at hb
  have hok:fQ (foldM l):= @dV.ok ⟨⟨True,#[]⟩⟩ _ _ hbd (by omega);have hO3:=hO.below hbel;have hS:=xp hO3 hg hlt;have hst12:=dJ hb2;have hst:=(dJ hbel);have hr3:=(hr1.cells hst12).cells hst;have hv3:=(hv1.cells hst12).cells hst;have hbb3:=(hbel.block _ (AE (Ab.1 hbb1).1 hb2.size)).trans ((hb2.block _ (Ab.1 hbb1).1).trans hbb1);have hbr3:=(hbel.block _ (AE (Ab.1 hbr1).1 hb2.size)).trans ((hb2.block _ (Ab.1 hbr1).1).trans hbr1);have hB1:Below w.heap.size w w1:=hbW.trans (hb1.mono hbW.size);have hB2:Below w.heap.size w w2:=hB1.trans (hb2.mono hB1.size);have hB3:Below w.heap.size w W3:=hB2.trans (hbel.mono hB2.size);have u1:=hm1.cells hst;have u2:=hm2.cells hst;have u3:=hm3.cells hst;letI:Inhabited aK:=oH W3
  have hlaw:=Rv (l:=l) (now:=now) hS (yA hg hlt hl30 hL2.1.1) (FJ hL2.1.2);refine eF.mono (Ci (n:=2000) (c:=spine 3 (Tryz.f5.body.getD .skip)) bh rfl (ZO (ry W3) (Hp (ry W3) ha)) rfl hlaw ?_ (yo W3)) ?_
  . exact .cons rfl (.int _ _) (FA rfl hbb3 hr3 hv3 (FC rfl hbr3 (.cons rfl (.wp _) (FB rfl hbx u1 u2 u3 .nil))))
  . rintro e w' ⟨rfl,hb'⟩;exact⟨rfl,hB3.trans (hb'.mono hB3.size)⟩
end
end Go.Proofs
