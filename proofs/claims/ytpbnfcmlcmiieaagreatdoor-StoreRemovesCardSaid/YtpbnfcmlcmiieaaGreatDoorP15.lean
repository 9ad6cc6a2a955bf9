/- Part 15: an evaluator, proved sound, and its use at this seat; no condition. -/
import Derived.KernelRfl
import Derived.WalkKit
import Derived.LoopTactic
import Derived.Test.YtpbnfcmlcmiieaaGreatDoorP3
import Derived.Test.YtpbnfcmlcmiieaaGreatDoorP12
import Derived.Test.YtpbnfcmlcmiieaaGreatDoorP13
import Derived.Test.YtpbnfcmlcmiieaaGreatDoorP14
set_option linter.unusedSimpArgs false
set_option linter.unusedVariables false
set_option linter.unusedSectionVars false
set_option linter.deprecated false
set_option maxRecDepth 100000
set_option maxHeartbeats 40000000
namespace Go.Proofs
open Go Go.Am Go.RowKit Go.Sy
end Go.Proofs
namespace Go.Proofs
open Go Go.Am Go.RowKit Go.Sy Go.Maps Go.Sort Go.Shelf
section
section
variable [Inhabited aE]
end
section
variable [Inhabited aE]
end
end
section
variable [Inhabited aE]
end
end Go.Proofs
namespace Go.Proofs
open Go Go.Am Go.RowKit Go.Sy Go.Gm Go.Maps Go.Sort Go.Shelf
section
abbrev uI (c:bE) (m:bN) (now:Int):List ad×Int:=yX (c,tv m,now)
def Iq (c:bE) (m:bN) (now:Int):List az:=gk (mT m (uI c m now).1)
section
variable [Inhabited aE]
structure purgeOk (c:bE) (m:bN) (now:Int):Prop where
 rules:xN c
 mX:(tv m).length<=10000
 short:JM (tv m)
 cq:(mT m (uI c m now).1).length<=10000
 one:m.kept.length<=2000
 room:m.kept.length+(Iq c m now).length<=2048
end
end
section
variable [Inhabited aE]
end
section
section
variable [Inhabited aE]
end
section
variable [Inhabited aE]
end
end
section
section
variable [Inhabited aE]
end
end
section
section
variable [Inhabited aE]
def yu:aR:={Y:=List az,pre:=ju,args:=fun y=>[fx y,fx y],res:=fun _=> .bool true}
def I9 (y:List az):bh:={α:=Nat,ok:=fun i=>i<=y.length,μ:=fun i=>y.length - i,bI:=[],bJ:=fun i=>[(0,fx y),(1,fx y),(5,i64 i)],cU:=fun _=>[]}
theorem HA:CO oN yu:=cZ (cfg:=fun y=>fk tR (dO oN 4 (I9 y))) cB (fun _=>rfl) (fun _=>xa) (n:=900) (by
 intro (y:List az) (hy:ju y);have hl:=hy.1
 (conv=>whnf)
 refine cm (fun h=>?_) fun _=>?_
 . exfalso;have h:(!(Int.ofNat y.length==Int.ofNat y.length))=true:=h;simp at h
 (conv=>whnf)
 refine⟨⟨(0:Nat),Bl _,?_⟩,?_⟩
 . repeat' (first|exact trivial|exact rfl|((conv=>whnf);first|(apply cm<;>intro)|apply And.intro))
 intro (x:Nat) hx;have hx:x<=y.length:=hx
 (conv=>whnf)
 refine cm (fun hlt=>?_) fun hge=>?_
 . have hlt':x<y.length:=dB hlt;have hov:=hy.2 y[x] (AX hlt')
   (conv=>whnf)
   refine aN.2 ⟨_,eA hlt',?_⟩
   (conv=>whnf)
   refine aN.2 ⟨_,eA hlt',?_⟩
   (conv=>whnf)
   refine ak.2 ⟨fun h=>absurd (show(!(y[x].kind==y[x].kind))=true from h) (by simp),fun _=>?_⟩
   (conv=>whnf)
   refine aN.2 ⟨_,eA hlt',?_⟩
   (conv=>whnf)
   refine aN.2 ⟨_,eA hlt',?_⟩
   (conv=>whnf)
   refine ak.2 ⟨fun h=>absurd h (by simp),fun _=>?_⟩
   (conv=>whnf)
   refine aN.2 ⟨_,eA hlt',?_⟩
   (conv=>whnf)
   refine aN.2 ⟨_,eA hlt',?_⟩
   (conv=>whnf)
   refine⟨(y[x].over,y[x].over),?_⟩
   repeat ((conv=>whnf);first|refine⟨rfl,?_⟩|refine⟨trivial,?_⟩)
   refine⟨⟨by show y[x].over.length<=1000000;omega,by show y[x].over.length<=1000000;omega⟩,?_⟩
   (conv=>whnf)
   refine ak.2 ⟨fun h=>absurd h (by simp),fun _=>?_⟩
   (conv=>whnf)
   refine aB.2 ⟨eG x (by omega),?_⟩
   (conv=>whnf)
   refine⟨(x+1:Nat),hlt',by show y.length - (x+1)<y.length - x;omega,?_⟩
   repeat' (first|exact trivial|exact rfl|((conv=>whnf);first|(apply cm<;>intro)|apply And.intro))
 . repeat' (first|exact trivial|exact rfl|((conv=>whnf);first|(apply cm<;>intro)|apply And.intro)))
end
end
section
def fc (l:List az):Prop:=l.length<=100000/\ ∀d∈l,d.over.length<=100000
def dc (l:List az):Bool:=l.all fun d=>decide (d.over.length<=64)
theorem sd {l:List az} {x:Nat} (h:x<l.length) (h1:dc (l.take x)=true) (h2:l[x].over.length<=64):dc (l.take (x+1))=true:=by
 unfold dc at*;rw[AP h,List.all_append,h1];simpa using h2
theorem xK {l:List az} {x:Nat} (h:x<l.length) (h2:64<l[x].over.length):dc l=false:=by
 unfold dc;rw[List.all_eq_false];exact⟨_,AX h,by simpa using h2⟩
theorem xj {l:List az} {x:Nat} (h:l.length<=x) (h1:dc (l.take x)=true):dc l=true:=by rwa [A2 h]at h1
theorem nA (l:List az):Flat (fx l):= .aD fun i x j v _ hv=>by
 have hj:j<13:=(Ac.1 hv).1;match j,hj with
 |0,_|9,_|10,_|11,_=>cases hv;exact .int _ _
 |1,_|2,_|3,_|4,_=>cases hv;exact .str _
 |5,_|6,_|7,_|8,_=>cases hv;exact .bool _
 |12,_=>cases hv;exact mg _
section
variable [Inhabited aE]
def yp:aR:={Y:=Nat,pre:=fun _=>True,args:=fun y=>[.aA,i64 y],res:=fun _=> .bool false}
theorem H8:CO jY yp:=cZ (cfg:=fun(_:Nat)=>fk cH (fun _ _=>none)) cB (fun _=>rfl) (fun _=>gR) (n:=600) (by
 intro (y:Nat) _
 repeat' (first|exact trivial|exact rfl|((conv=>whnf);first|(apply cm<;>intro)|apply And.intro)))
noncomputable def yM (f:FuncId):Option aR:=bif Nat.beq f jY then some yq else cH f
theorem GD (hdr:¬(default:aE).dr):∀f C,yM f=some C->CO f C:=dw (H9 hdr) gR
noncomputable def yN (f:FuncId):Option aR:=bif Nat.beq f jY then some yp else cH f
theorem GF:∀f C,yN f=some C->CO f C:=dw H8 gR
def yj (l:List az):bh:={α:=Nat,ok:=fun i=>i<=l.length/\dc (l.take i)=true,μ:=fun i=>l.length - i,bI:=[0,1],bJ:=fun i=>[(7,fx l),(8,i64 (Int.ofNat l.length)),(9,i64 i)],cU:=fun _=>[]}
def Iw:aR:={Y:=Nat×bN×List az,pre:=fun y=>dT y.1 y.2.1/\fc y.2.2,args:=fun y=>[.wp ⟨y.1,0,none⟩,fx y.2.2],res:=fun y=> .bool (dc y.2.2&&decide (y.2.1.kept.length+y.2.2.length<=2048))}
theorem HZ (hdr:¬(default:aE).dr):CO ke Iw:=cZ (cfg:=fun(y:Nat×bN×List az)=>fk yM (dO ke 2 (yj y.2.2))) cB (fun _=>rfl) (fun _=>GD hdr) (n:=600) (by
 rintro⟨b,m,l⟩ ⟨hm,hl⟩;have hm:dT b m:=hm;have hl:fc l:=hl;have hl1:=hl.1
 (conv=>whnf)
 refine⟨⟨(0:Nat),⟨Bl _,rfl⟩,?_⟩,?_⟩
 . repeat' (first|exact trivial|exact rfl|((conv=>whnf);first|(apply cm<;>intro)|apply And.intro))
 intro (x:Nat) hx0;have hx:x<=l.length:=hx0.1;have hfx:dc (l.take x)=true:=hx0.2
 (conv=>whnf)
 refine cm (fun hlt=>?_) fun hge=>?_
 . have hlt':x<l.length:=dB hlt;have hov:=hl.2 l[x] (AX hlt')
   (conv=>whnf)
   refine aN.2 ⟨_,eA hlt',?_⟩
   (conv=>whnf)
   refine cm (fun h=>?_) fun h=>?_
   . have h:cu 64 (Int.ofNat l[x].over.length)=true:=h;rw[de,Ao]at h;have h:(64:Int)<(l[x].over.length:Int):=h;have hf:=xK hlt' (by omega)
     (conv=>whnf)
     refine⟨?_,?_⟩
     . show false=(dc l&&decide (m.kept.length+l.length<=2048))
       rw[hf];rfl
     repeat' (first|exact trivial|exact rfl|((conv=>whnf);first|(apply cm<;>intro)|apply And.intro))
   . have h:cu 64 (Int.ofNat l[x].over.length)=false:=h;rw[de,As]at h;have h:¬(64:Int)<(l[x].over.length:Int):=h;have hf:=sd hlt' hfx (by omega)
     (conv=>whnf)
     refine aB.2 ⟨eG x (by omega),?_⟩
     (conv=>whnf)
     refine⟨(x+1:Nat),⟨hlt',hf⟩,by show l.length - (x+1)<l.length - x;omega,?_⟩
     repeat' (first|exact trivial|exact rfl|((conv=>whnf);first|(apply cm<;>intro)|apply And.intro))
 . have hf:=xj (od hge) hfx
   (conv=>whnf)
   refine⟨(b,m,l.length),?_⟩
   repeat ((conv=>whnf);first|refine⟨rfl,?_⟩|refine⟨trivial,?_⟩)
   refine⟨⟨hm,by show l.length<=1000000;omega⟩,?_⟩
   (conv=>whnf)
   refine⟨?_,?_⟩
   . show decide (m.kept.length+l.length<=2048)=(dc l&&decide (m.kept.length+l.length<=2048))
     rw[hf,BF]
   repeat' (first|exact trivial|exact rfl|((conv=>whnf);first|(apply cm<;>intro)|apply And.intro)))
def yn:aR:={Y:=List az,pre:=fc,args:=fun y=>[.aA,fx y],res:=fun _=> .bool false}
theorem H3:CO ke yn:=cZ (cfg:=fun(y:List az)=>fk yN (dO ke 2 (yj y))) cB (fun _=>rfl) (fun _=>GF) (n:=600) (by
 intro (l:List az) (hl:fc l);have hl1:=hl.1
 (conv=>whnf)
 refine⟨⟨(0:Nat),⟨Bl _,rfl⟩,?_⟩,?_⟩
 . repeat' (first|exact trivial|exact rfl|((conv=>whnf);first|(apply cm<;>intro)|apply And.intro))
 intro (x:Nat) hx0;have hx:x<=l.length:=hx0.1;have hfx:dc (l.take x)=true:=hx0.2
 (conv=>whnf)
 refine cm (fun hlt=>?_) fun hge=>?_
 . have hlt':x<l.length:=dB hlt;have hov:=hl.2 l[x] (AX hlt')
   (conv=>whnf)
   refine aN.2 ⟨_,eA hlt',?_⟩
   (conv=>whnf)
   refine cm (fun h=>?_) fun h=>?_
   . repeat' (first|exact trivial|exact rfl|((conv=>whnf);first|(apply cm<;>intro)|apply And.intro))
   . have h:cu 64 (Int.ofNat l[x].over.length)=false:=h;rw[de,As]at h;have h:¬(64:Int)<(l[x].over.length:Int):=h;have hf:=sd hlt' hfx (by omega)
     (conv=>whnf)
     refine aB.2 ⟨eG x (by omega),?_⟩
     (conv=>whnf)
     refine⟨(x+1:Nat),⟨hlt',hf⟩,by show l.length - (x+1)<l.length - x;omega,?_⟩
     repeat' (first|exact trivial|exact rfl|((conv=>whnf);first|(apply cm<;>intro)|apply And.intro))
 . (conv=>whnf)
   refine⟨(l.length:Nat),?_⟩
   repeat ((conv=>whnf);first|refine⟨rfl,?_⟩|refine⟨trivial,?_⟩)
   repeat' (first|exact trivial|exact rfl|((conv=>whnf);first|(apply cm<;>intro)|apply And.intro)))
def ym:aR:={Y:=bN×List az,pre:=fun y=>mc y.1/\fc y.2,args:=fun y=>[.agg y.1.enc,fx y.2],res:=fun y=> .bool (dc y.2&&decide (y.1.kept.length+y.2.length<=2048))}
def I7 (l:List az):bh:={α:=Nat,ok:=fun i=>i<=l.length/\dc (l.take i)=true,μ:=fun i=>l.length - i,bI:=[2,4],bJ:=fun i=>[(1,fx l),(5,i64 i)],cU:=fun _=>[]}
theorem HY:CO oM ym:=cZ (cfg:=fun(y:bN×List az)=>fk cH (dO oM 2 (I7 y.2))) cB (fun _=>rfl) (fun _=>gR) (n:=600) (by
 rintro⟨m,l⟩ ⟨hm,hl⟩;have hm:mc m:=hm;have hl:fc l:=hl;have hl1:=hl.1
 (conv=>whnf)
 refine⟨⟨(0:Nat),⟨Bl _,rfl⟩,?_⟩,?_⟩
 . repeat' (first|exact trivial|exact rfl|((conv=>whnf);first|(apply cm<;>intro)|apply And.intro))
 intro (x:Nat) hx0;have hx:x<=l.length:=hx0.1;have hfx:dc (l.take x)=true:=hx0.2
 (conv=>whnf)
 refine cm (fun hlt=>?_) fun hge=>?_
 . have hlt':x<l.length:=dB hlt;have hov:=hl.2 l[x] (AX hlt')
   (conv=>whnf)
   refine aN.2 ⟨_,eA hlt',?_⟩
   (conv=>whnf)
   refine cm (fun h=>?_) fun h=>?_
   . have h:cu 64 (Int.ofNat l[x].over.length)=true:=h;rw[de,Ao]at h;have h:(64:Int)<(l[x].over.length:Int):=h;have hf:=xK hlt' (by omega)
     (conv=>whnf)
     refine⟨?_,?_⟩
     . show false=(dc l&&decide (m.kept.length+l.length<=2048))
       rw[hf];rfl
     repeat' (first|exact trivial|exact rfl|((conv=>whnf);first|(apply cm<;>intro)|apply And.intro))
   . have h:cu 64 (Int.ofNat l[x].over.length)=false:=h;rw[de,As]at h;have h:¬(64:Int)<(l[x].over.length:Int):=h;have hf:=sd hlt' hfx (by omega)
     (conv=>whnf)
     refine aB.2 ⟨eG x (by omega),?_⟩
     (conv=>whnf)
     refine⟨(x+1:Nat),⟨hlt',hf⟩,by show l.length - (x+1)<l.length - x;omega,?_⟩
     repeat' (first|exact trivial|exact rfl|((conv=>whnf);first|(apply cm<;>intro)|apply And.intro))
 . have hk:=hm.kept;have hf:=xj (od hge) hfx
   (conv=>whnf)
   refine aB.2 ⟨by
     have e:cg .i64 ((m.kept.length:Int)+(l.length:Int))=true:=by rw[kz];omega
     exact e,?_⟩
   (conv=>whnf)
   refine⟨?_,?_⟩
   . show cl ((m.kept.length:Int)+(l.length:Int)) 2048=(dc l&&decide (m.kept.length+l.length<=2048))
     rw[hf,BF,gl];exact decide_eq_decide.2 (by omega)
   repeat' (first|exact trivial|exact rfl|((conv=>whnf);first|(apply cm<;>intro)|apply And.intro)))
end
def gH (w:World) (l:List az) (v:Value):Prop:=Rd w (fun _=>True) true (fx l) v
end
theorem J6:¬(@default aE (⟨⟨False,#[]⟩⟩:Inhabited aE)).dr:=fun h=>h
theorem uj {w:World} {l:List aj} {v:Value} (h:cc w l v) (hl:l.length<=300):Calls Tryz.prog 6 #[v] w fun e w'=>∃u,e= .returned u/\gH w' (gk l) u/\Below w.heap.size w w':=by
 letI:Inhabited aE:=⟨⟨False,#[]⟩⟩
 refine Calls.mono (iQ cB.ok (FY J6) (fn:=Tryz.f6) (hfn:=by kernel_rfl) (hb:=rfl) (y:=l) (by show l.length<=1000000;omega) (args:=[v]) (w:=w) (PL.cons (lx (mg l) (nZ h)) PL.nil) (dm.l9 rfl _)) ?_;rintro e w' ⟨u,rfl,hu,hb,_⟩;exact⟨u,rfl,hu,hb⟩
theorem uk {w:World} {l:List aj} {v:Value} (h:cc w l v) (hl:l.length<=300):Calls Tryz.prog 7 #[v] w fun e w'=>∃u,e= .returned u/\gH w' (gk l) u/\Below w.heap.size w w':=by
 letI:Inhabited aE:=⟨⟨False,#[]⟩⟩
 refine Calls.mono (iQ cB.ok Fu (fn:=Tryz.f7) (hfn:=by kernel_rfl) (hb:=rfl) (y:=l) (by show l.length<=100000;omega) (args:=[v]) (w:=w) (PL.cons (lx (mg l) (nZ h)) PL.nil) (dm.l9 rfl _)) ?_;rintro e w' ⟨u,rfl,hu,hb,_⟩;exact⟨u,rfl,hu,hb⟩
theorem JL {w:World} {d:List az} {v u:Value} (h:gH w d v) (h2:gH w d u) (hd:ju d):Calls Tryz.prog 5 #[v,u] w fun e w'=>e= .returned (.bool true)/\Below w.heap.size w w':=
 tO (C:=fun I=> @yu) (hfn:=rfl) (hb:=rfl) (args:=[v,u]) (fun I=> @HA I) (fun I=>⟨d,hd,PL.cons (lx (nA d) h) (PL.cons (lx (nA d) h2) PL.nil),rfl⟩)
theorem Tryz.na {w:World} {d:List az} {m:bN} {u v:Value} (hm:mc m) (hu:Rd w (fun _=>True) true (.agg m.enc) u) (h:gH w d v) (hd:fc d):Calls Tryz.prog 10 #[u,v] w fun e w'=>e= .returned (.bool (dc d&&decide (m.kept.length+d.length<=2048)))/\Below w.heap.size w w':=
 tO (C:=fun I=> @ym) (hfn:=rfl) (hb:=rfl) (args:=[u,v]) (fun I=> @HY I) (fun I=>⟨(m,d),⟨hm,hd⟩,PL.cons (IQ (Gx m) hu) (PL.cons (lx (nA d) h) PL.nil),rfl⟩)
theorem Tryz.nc {w:World} {d:List az} {v:Value} (h:gH w d v) (hd:fc d):Calls Tryz.prog 8 #[.pointer none,v] w fun e w'=>e= .returned (.bool false)/\Below w.heap.size w w':=
 tO (C:=fun I=> @yn) (hfn:=rfl) (hb:=rfl) (args:=[.pointer none,v]) (fun I=> @H3 I) (fun I=>⟨d,hd,PL.cons .aA (PL.cons (lx (nA d) h) PL.nil),rfl⟩)
theorem Tryz.nb {w:World} {b:Nat} {m:bN} {d:List az} {v:Value} (hS: @dT (lB w) b m) (h:gH w d v) (hd:fc d):Calls Tryz.prog 8 #[.pointer (some ⟨b,0,none⟩),v] w fun e w'=>e= .returned (.bool (dc d&&decide (m.kept.length+d.length<=2048)))/\Below w.heap.size w w':=by
 letI:Inhabited aE:=lB w
 refine Calls.mono (iQ cB.ok (HZ (Ie w)) (fn:=Tryz.f8) (hfn:=by kernel_rfl) (hb:=rfl) (y:=(b,m,d)) ⟨hS,hd⟩ (args:=[.pointer (some ⟨b,0,none⟩),v]) (w:=w) (PL.cons (.wp _) (PL.cons (lx (nA d) h) PL.nil)) (GU w)) ?_;rintro e w' ⟨u,rfl,hu,hb,_⟩
 cases hu;exact⟨rfl,hb⟩
theorem Kh (w:World):Calls Tryz.prog 9 #[] w fun e w'=>∃b,e= .returned (.pointer (some ⟨b,0,none⟩))/\ @dT (lB w') b dF/\Below w.heap.size w w':=by
 refine Calls.mono (Ke w) ?_;rintro e w' ⟨b,bk,ba,bd,bs,bv,rfl,hO,hb⟩;exact⟨b,rfl,FR hO JC uJ (fun e he=>by cases he),hb⟩
theorem HK {w:World} {l:List az} {v:Value} (h:gH w l v):(l=[]/\ ∃a c,v= .slice a 0 c)\/ ∃b off cap arr e fz,v= .slice (some ⟨b,off,none⟩) l.length cap/\w.heap[b]? =some (.cells arr e fz)/\l.length<=cap/\off+l.length*13<=arr.size/\
  ∀i (h:i<l.length),∃a c,arr[off+i*13+12]? =some (.slice a l[i].over.length c):=by
 letI:Inhabited aE:=⟨⟨True,#[]⟩⟩
 unfold gH fx at h
 cases h with
 |fp h0=>exact .inl ⟨Bk.1 h0,_,_,rfl⟩
 |bt h h0 a c=>exact .inl ⟨Bk.1 h0,_,_,rfl⟩
 | aD b off cap arr e fz sz u hp hb hs hl hn hc h1 h2=>
  by_cases h0:l=[]
  . subst h0;exact .inl ⟨rfl,_,_,rfl⟩
  . have hsz:sz=13:=by
      obtain⟨x,l',rfl⟩:=Ed h0;exact(hn 0 x rfl).symm
    subst hsz;refine .inr ⟨b,off,cap,arr,e,fz,rfl,hb,hc,hl,fun i hi=>?_⟩;have hx:l[i]? =some l[i]:=Af hi;have hd:=sO (h2 i _ 12 _ hx rfl);have e1:=h1 i _ 12 _ hx rfl;rcases hd with⟨e,a,c,he⟩|⟨_,_,_,_,_,_,he,_⟩
    . rw[he]at e1;exact⟨a,c,by rw[e1,e];rfl⟩
    . rw[he]at e1;exact⟨_,_,e1⟩
theorem lD {w w':World} {d:List az} {v:Value} (h:me w w') (hd:gH w d v):gH w' d v:= @Hx ⟨⟨True,#[]⟩⟩ _ _ _ _ h _ _ hd
theorem GM (w:World):Rd w (fun _=>True) true (.agg dF.enc) (.agg #[.slice none 0 0, .slice none 0 0, .slice none 0 0]):=by
 letI:Inhabited aE:=⟨⟨True,#[]⟩⟩
 refine .agg rfl fun i s v hs hv=>?_
 match i with
 |0=>cases hs;cases hv;exact nZ (.inl ⟨rfl,_,_,rfl⟩)
 |1=>cases hs;cases hv;exact Is (.inl ⟨rfl,_,_,rfl⟩)
 |2=>cases hs;cases hv;exact nZ (.inl ⟨rfl,_,_,rfl⟩)
 |n+3=>cases hs
theorem ue {l:List aj} {d:List az} {v u:Value} {w:World} (hl:cc w l v) (hd:gH w d u) (ha:∀w,Calls Tryz.prog 4 #[] w fun e w'=>e= .returned (.bool true)/\Below w.heap.size w w'):
   Calls Tryz.prog 3 #[v,u] w fun e w'=>e= .returned (.bool true)/\Below w.heap.size w w':=by
 obtain⟨va,vc,rfl⟩:∃a c,v= .slice a l.length c:=by
   rcases hl with⟨rfl,a,c,rfl⟩|⟨b,off,cap,arr,e,fz,rfl,_⟩
   . exact⟨a,c,rfl⟩
   . exact⟨_,cap,rfl⟩
 have hov:=HK hd;obtain⟨ua,uc,rfl⟩:∃a c,u= .slice a d.length c:=by
   rcases hov with⟨rfl,a,c,rfl⟩|⟨b,off,cap,arr,e,fz,rfl,_⟩
   . exact⟨a,c,rfl⟩
   . exact⟨_,cap,rfl⟩
 have ha0:=ha w;by_cases h1:300<l.length
 . have g1:decide (300<(l.length:Int))=true:=De (by omega);go_enter Tryz.func3,Tryz.ntmps3
   go_wp2_with (go_at_call 4;refine ha0.mono ?_;rintro e w1 ⟨rfl,hb1⟩)
   go_ret;exact⟨rfl,hb1⟩
 have g1:decide (300<(l.length:Int))=false:=BL (by omega);have h1:l.length<=300:=by omega
 by_cases h2:50<d.length
 . have g2:decide (50<(d.length:Int))=true:=De (by omega);go_enter Tryz.func3,Tryz.ntmps3
   go_wp2_with (go_at_call 4;refine ha0.mono ?_;rintro e w1 ⟨rfl,hb1⟩)
   go_ret;exact⟨rfl,hb1⟩
 have h2:d.length<=50:=by omega
 have g2:decide (50<(d.length:Int))=false:=BL (by omega);go_enter Tryz.func3,Tryz.ntmps3
 go_wp2;go_loopw [5] (fun i wr=>∃k:Nat,k<=d.length/\i= .int .i64 k/\(∀x∈d.take k,x.over.length<=100)/\wr=w) (fun i _=>d.length - (intOf i).toNat)
 case atStart=>exact⟨0,Bl _,rfl,by simp,rfl⟩
 case round=>
   obtain⟨k,hk,rfl,hall,rfl⟩:=hrel;by_cases hlt:k<d.length
   . obtain⟨b,off,cap,arr,e,fz,hu,hbb,hcap,hsz,hcell⟩:=hov.resolve_left (fun h=>by rw[h.1]at hlt;exact absurd hlt (Dn _));simp only[Value.slice.injEq]at hu;obtain⟨rfl, -,rfl⟩:=hu;obtain⟨a,c,hc⟩:=hcell k hlt;have hcl:wr.cell? ⟨b,off+k*13+12,none⟩=some (.slice a d[k].over.length c):=by rw[cell_of hbb];exact hc
     by_cases h3:d[k].over.length<=100
     . have g3:decide (100<(d[k].over.length:Int))=false:=BL (by omega);go_wp2;go_roundw
       case rel=>exact⟨k+1,hlt,by go_num,fun x hx=>by
        rw[AP hlt]at hx;rcases BU.1 hx with hx|hx
        . exact hall x hx
        . rw[DV.1 hx];exact h3,trivial⟩
       case measure=>simp[intOf];omega
     . have g3:decide (100<(d[k].over.length:Int))=true:=De (by omega);go_wp2_with (go_at_call 4;refine ha0.mono ?_;rintro e w1 ⟨rfl,hb1⟩)
       go_ret;exact⟨rfl,hb1⟩
   . have hkl:k=d.length:=by omega
     subst hkl;rw[D5]at hall;have hF:fc d:=⟨by omega,fun x hx=>by have:=hall x hx;omega⟩;have c1:=uj hl h1;have hfew:=CT (show l.length<=100000 by omega);generalize hbb:(dc d&&decide (dF.kept.length+d.length<=2048))=bb
     have hz:dF.kept.length=0:=rfl;go_wp2_with (first
       |(go_at_call 6;refine c1.mono ?_;rintro e w1 ⟨v1,rfl,hd1,hb1⟩;have c2:=uk (hl.cells (kK hb1)) h1)
       |(go_at_call 7;refine c2.mono ?_;rintro e w2 ⟨v2,rfl,hd2,hb2⟩;have c3:=JL (lD (kK hb2) hd1) hd2 hfew)
       |(go_at_call 5;refine c3.mono ?_;rintro e w3 ⟨rfl,hb3⟩;have c4:=Kh w3)
       |(go_at_call 9;refine c4.mono ?_;rintro e w4 ⟨b,rfl,hS,hb4⟩;have hd4:=lD (kK hb4) (lD (kK hb3) (lD (kK hb2) (lD (kK hb1) hd)));have c5:=Tryz.nb hS hd4 hF;rw[hbb]at c5)
       |(go_at_call 8;refine c5.mono ?_;rintro e w5 ⟨rfl,hb5⟩;have hd5:=lD (kK hb5) hd4;have c6:=Tryz.na uJ (GM w5) hd5 hF;rw[hbb]at c6;have c7:=fun w' (hb:Below w5.heap.size w5 w')=>Tryz.nc (lD (kK hb) hd5) hF)
       |(go_at_call 10;refine c6.mono ?_;rintro e w6 ⟨rfl,hb6⟩;have c8:=c7 w6 hb6;clear c5)
       |(go_at_call 8;refine c8.mono ?_;rintro e w7 ⟨rfl,hb7⟩;have c9:=ha w7)
       |(go_at_call 4;refine c9.mono ?_;rintro e w8 ⟨rfl,hb8⟩))
     go_ret;have s2:=AG hb1.size hb2.size;have s3:=AG s2 hb3.size;have s4:=AG s3 hb4.size;have s5:=AG s4 hb5.size;have s6:=AG s5 hb6.size;have s7:=AG s6 hb7.size;exact⟨rfl,((((((hb1.trans (hb2.mono hb1.size)).trans (hb3.mono s2)).trans (hb4.mono s3)).trans (hb5.mono s4)).trans (hb6.mono s5)).trans (hb7.mono s6)).trans (hb8.mono s7)⟩
end Go.Proofs
