/- Part 7: an evaluator, proved sound, and its use at this seat; no condition. -/
import Derived.Test.YtmfohfbdddlilaaGreatP5
import Derived.Test.YtmfohfbdddlilaaGreatP6
set_option linter.unusedSimpArgs false
set_option linter.unusedVariables false
set_option linter.unusedSectionVars false
set_option linter.deprecated false
set_option maxRecDepth 100000
set_option maxHeartbeats 4000000
namespace Go.Proofs
open Go Go.Am Go.RowKit Go.Sy
section
variable [Inhabited aL]
def jH (d:aj) (l:List aj) (i:Nat) (h:i<l.length):Bool:=fk l[i]&&(decide (i=0)||bS (l[i - 1]'(by omega)) l[i])&& !(l[i].dev==d.dev&&l[i].inc==d.inc&&bV d.seq l[i].seq)
def iS (d:aj) (l:List aj):Bool:=decide (l.length<=64)&&decide (∀i (h:i<l.length),jH d l i h=true)
def iA (e:ae):Bool:=bV (Int.ofNat e.over.length) 100&&bV (Int.ofNat e.key.name.length) 2000&&bV (Int.ofNat e.key.domain.length) 2000&&bV (Int.ofNat e.key.path.length) 2000&&bV (Int.ofNat e.ab.value.length) 2000
def fE (pre:ae->Prop) (p:ae->Bool):aN:={Y:=ae,pre:=pre,args:=fun y=>[.agg y.enc],res:=fun y=> .bool (p y)}
def zZ:aN:={Y:=List ae×Int,pre:=fun y=>y.2<=1000000,args:=fun y=>[cG y.1,i64 y.2],res:=fun y=> .bool (bV (Int.ofNat y.1.length) y.2&&y.1.all iA)}
def TY (y:List ae×Int):aI:={α:=Nat,ok:=fun i=>i<=y.1.length/\(y.1.take i).all iA=true,μ:=fun i=>y.1.length - i,aX:=[],aS:=fun i=>[(0,cG y.1),(5,i64 i)],bw:=fun _=>[]}
theorem Lv:CO rL (fE (fun _=>True) iA):=bZ (cfg:=fun y=>cz cj (cW y)) bC (fun _=>rfl) (fun _=>sr) (n:=400) (by
 intro (e:ae) _
 repeat' (first|exact trivial|exact rfl|((conv=>whnf);first|(apply aK<;>intro)|apply And.intro))
 all_goals (simp_all[iA]))
noncomputable def GF (f:FuncId):Option aN:=bif Nat.beq f rL then some (fE (fun _=>True) iA)else tx f
theorem KQ:∀g C,GF g=some C->CO g C:=bR Lv uy
theorem JL:CO pg zZ:=bZ (cfg:=fun y=>cz GF (cD pg 4 (TY y))) bC (fun _=>rfl) (fun _=>KQ) (n:=400) (by
 rintro⟨l,m⟩ (hm:m<=1000000)
 (conv=>whnf)
 refine aK (fun h=>?_) fun h=>?_
 . have h:bV (Int.ofNat l.length) m=false:=by
     have h:bI m (Int.ofNat l.length)=true:=h;rw[cr,Ad]at h;rw[fc,Ah];omega
   (conv=>whnf)
   refine⟨by show false=_;rw[h];rfl,?_⟩
   repeat' (first|exact trivial|exact rfl|((conv=>whnf);first|(apply aK<;>intro)|apply And.intro))
 have h:bV (Int.ofNat l.length) m=true:=by
   have h:bI m (Int.ofNat l.length)=false:=h;rw[cr,Ah]at h;rw[fc,Ad];omega
 have hlen:l.length<=1000000:=by rw[fc,Ad,Ac]at h;omega
 (conv=>whnf)
 refine⟨⟨(0:Nat),⟨Aw _,by simp⟩,?_⟩,?_⟩
 . repeat' (first|exact trivial|exact rfl|((conv=>whnf);first|(apply aK<;>intro)|apply And.intro))
 intro (x:Nat) hx;obtain⟨hx,hn⟩:=hx;have hx:x<=l.length:=hx;have hn:(l.take x).all iA=true:=hn
 (conv=>whnf)
 refine aK (fun hlt=>?_) fun hge=>?_
 . have hlt':x<l.length:=cB hlt
   (conv=>whnf)
   refine au.2 ⟨_,cO hlt',?_⟩
   (conv=>whnf)
   refine⟨l[x],?_⟩
   repeat ((conv=>whnf);first|refine⟨rfl,?_⟩|refine⟨trivial,?_⟩)
   (conv=>whnf)
   refine aK (fun h1=>?_) fun h1=>?_
   . have h1:(!iA l[x])=true:=h1
     (conv=>whnf)
     refine⟨?_,?_⟩
     . show false=(bV (Int.ofNat l.length) m&&l.all iA)
       rw[h,Bj,eq_comm,List.all_eq_false];exact⟨l[x],AJ hlt',by simpa using h1⟩
     . repeat' (first|exact trivial|exact rfl|((conv=>whnf);first|(apply aK<;>intro)|apply And.intro))
   . have h1:(!iA l[x])=false:=h1
     (conv=>whnf)
     refine ag.2 ⟨cu x (by omega),?_⟩
     (conv=>whnf)
     refine⟨(x+1:Nat),⟨hlt',?_⟩,by show l.length - (x+1)<l.length - x;omega,?_⟩
     . show(l.take (x+1)).all iA=true
       rw[AF hlt',List.all_append,hn];simpa using h1
     . repeat' (first|exact trivial|exact rfl|((conv=>whnf);first|(apply aK<;>intro)|apply And.intro))
 . have hge':l.length<=x:=gr hge;rw[Ay hge']at hn
   (conv=>whnf)
   refine⟨by show true=(bV (Int.ofNat l.length) m&&l.all iA);rw[h,hn];rfl,?_⟩
   repeat' (first|exact trivial|exact rfl|((conv=>whnf);first|(apply aK<;>intro)|apply And.intro)))
theorem Kk {d:aj} {l:List aj} {x:Nat} (hx:x<l.length) (h:jH d l x hx=false):iS d l=false:=by
 unfold iS;rw[Bool.and_eq_false_iff];right;refine Br fun hall=>?_
 rw[hall x hx]at h;cases h
def NI (d:aj) (l:List aj) (ks:List Nat) (s1 s2 s3:Nat):aI:={α:=Nat,ok:=fun i=>i<=l.length/\ ∀j (h:j<l.length),j<i->jH d l j h=true,μ:=fun i=>l.length - i,aX:=ks,aS:=fun i=>[(s1,cL l),(s2,i64 (Int.ofNat l.length)),(s3,i64 i)],bw:=fun _=>[]}
theorem YI:CO GP (fE (fun _=>True) fun e=>iS e.dot e.over):=bZ (C:=fE (fun _=>True) fun e=>iS e.dot e.over) (cfg:=fun(y:ae)=>cz GF (cD GP 4 (NI y.dot y.over [1] 10 11 12))) bC (fun _=>rfl) (fun _=>KQ) (n:=600) (by
 rintro⟨d,st,kd,ky,ck,l⟩ -
 (conv=>whnf)
 refine aK (fun h=>?_) fun h=>?_
 . have h:64<l.length:=by
     have h:bI 64 (Int.ofNat l.length)=true:=h;rw[cr,Ad,Ac]at h;omega
   (conv=>whnf)
   refine⟨by show false=iS d l;unfold iS;rw[Br (by omega)];rfl,?_⟩
   repeat' (first|exact trivial|exact rfl|((conv=>whnf);first|(apply aK<;>intro)|apply And.intro))
 have h:l.length<=64:=by
   have h:bI 64 (Int.ofNat l.length)=false:=h;rw[cr,Ah,Ac]at h;omega
 (conv=>whnf)
 refine⟨⟨(0:Nat),⟨Aw _,fun _ _ h=>absurd h (Be _)⟩,?_⟩,?_⟩
 . repeat' (first|exact trivial|exact rfl|((conv=>whnf);first|(apply aK<;>intro)|apply And.intro))
 intro (x:Nat) hx;obtain⟨hx,hn⟩:=hx;have hx:x<=l.length:=hx
 (conv=>whnf)
 refine aK (fun hlt=>?_) fun hge=>?_
 . have hlt':x<l.length:=cB hlt;have no:=Kk (d:=d) hlt';have yes:jH d l x hlt'=true->(NI d l [1] 10 11 12).ok (x+1:Nat):=fun hy=>⟨hlt',fun j hj hjx=>by
     rcases Ef j x with h1|h1
     . exact hn j hj h1
     . have e:j=x:=by omega
       subst e;exact hy⟩
   have mu:l.length - (x+1)<l.length - x:=by omega
   (conv=>whnf)
   refine au.2 ⟨_,cO hlt',?_⟩
   (conv=>whnf)
   refine⟨l[x],?_⟩
   repeat ((conv=>whnf);first|refine⟨rfl,?_⟩|refine⟨trivial,?_⟩)
   (conv=>whnf)
   refine aK (fun h1=>?_) fun h1=>?_
   . have h1:fk l[x]=false:=by
       have h1:(!fk l[x])=true:=h1;simpa using h1
     (conv=>whnf)
     refine⟨by show false=iS d l;rw[no (by simp only[jH,h1,Bb])],?_⟩
     repeat' (first|exact trivial|exact rfl|((conv=>whnf);first|(apply aK<;>intro)|apply And.intro))
   have h1:fk l[x]=true:=by
     have h1:(!fk l[x])=false:=h1;simpa using h1
   (conv=>whnf)
   refine ah.2 ⟨fun h2=> ?ga,fun h2=> ?gb⟩
   case' ga=>
     have hx0:0<x:=by
       have h2:bI 0 (x:Int)=true:=h2;rw[cr,Ad]at h2;omega
     have hx1:x - 1<l.length:=by omega
     have hget:l[((x:Int) - 1).toNat]? =some l[x - 1]:=by
       rw[show((x:Int) - 1).toNat=x - 1 by omega,Af hx1]
     (conv=>whnf)
     refine ag.2 ⟨by rw[iq];omega,?_⟩
     (conv=>whnf)
     refine ag.2 ⟨by rw[lO,Ad];omega,?_⟩
     (conv=>whnf)
     refine au.2 ⟨_,hget,?_⟩
     (conv=>whnf)
     refine⟨(l[x - 1],l[x]),?_⟩
     repeat ((conv=>whnf);first|refine⟨rfl,?_⟩|refine⟨trivial,?_⟩)
     (conv=>whnf)
     refine ah.2 ⟨fun h3=> ?gc,fun h3=> ?gd⟩
     case gc=>
       have h3:bS l[x - 1] l[x]=false:=by
         have h3:(!bS l[x - 1] l[x])=true:=h3;simpa using h3
       (conv=>whnf)
       refine⟨by show false=iS d l;rw[no (by simp only[jH,h1,h3,Br (show ¬x=0 by omega),EK,B9,Bb])],?_⟩
       repeat' (first|exact trivial|exact rfl|((conv=>whnf);first|(apply aK<;>intro)|apply And.intro))
     case' gd=>
       have h3:bS l[x - 1] l[x]=true:=by
         have h3:(!bS l[x - 1] l[x])=false:=h3;simpa using h3
       have hA:jH d l x hlt'= !(l[x].dev==d.dev&&l[x].inc==d.inc&&bV d.seq l[x].seq):=by simp only[jH,h1,h3,EV,DM,Bj]
   case' gb=>
     have hx0:x=0:=by
       have h2:bI 0 (x:Int)=false:=h2;rw[cr,Ah]at h2;omega
     have hA:jH d l x hlt'= !(l[x].dev==d.dev&&l[x].inc==d.inc&&bV d.seq l[x].seq):=by simp only[jH,h1,Bg hx0,Eh,DM,Bj]
   all_goals
     (conv=>whnf)
     refine aK (fun h4=>?_) fun h4=>?_
     . have h4:(l[x].dev==d.dev&&l[x].inc==d.inc)=true:=by simpa using h4
       (conv=>whnf)
       refine aK (fun h5=>?_) fun h5=>?_
       . have h5:bV d.seq l[x].seq=true:=h5;rw[h4,h5]at hA
         (conv=>whnf)
         refine⟨by show false=iS d l;rw[no hA],?_⟩
         repeat' (first|exact trivial|exact rfl|((conv=>whnf);first|(apply aK<;>intro)|apply And.intro))
       . have h5:bV d.seq l[x].seq=false:=h5;rw[h4,h5]at hA
         (conv=>whnf)
         refine ag.2 ⟨cu x (by omega),?_⟩
         (conv=>whnf)
         refine⟨(x+1:Nat),yes hA,mu,?_⟩
         repeat' (first|exact trivial|exact rfl|((conv=>whnf);first|(apply aK<;>intro)|apply And.intro))
     . have h4:(l[x].dev==d.dev&&l[x].inc==d.inc)=false:=by
         cases e:(l[x].dev==d.dev&&l[x].inc==d.inc)with
         |false=>rfl
         |true=>
          have e':(l[x].dev==d.dev&&(l[x].inc==d.inc&&true))=false:=h4;rw[DM,e]at e';cases e'
       rw[h4]at hA
       (conv=>whnf)
       refine ag.2 ⟨cu x (by omega),?_⟩
       (conv=>whnf)
       refine⟨(x+1:Nat),yes hA,mu,?_⟩
       repeat' (first|exact trivial|exact rfl|((conv=>whnf);first|(apply aK<;>intro)|apply And.intro))
 . have hge':l.length<=x:=gr hge
   (conv=>whnf)
   refine⟨?_,?_⟩
   . show true=iS d l
     unfold iS;rw[Bg h,Bg fun i hi=>hn i hi (AY hi hge')];rfl
   . repeat' (first|exact trivial|exact rfl|((conv=>whnf);first|(apply aK<;>intro)|apply And.intro)))
end
section
variable [Inhabited aL]
def mW (x:aa):Bool:=decide (x=bE)
def gm (e:ae):Bool:=fk e.dot&&l9 e.bp&&(e.bp.dev==e.dot.dev)&&iS e.dot e.over&&(bif e.kind==2 then mW e.item&&bI 0 (Int.ofNat e.over.length)else bif e.kind==1 then sX e.item else false)
def lr (e:ae):Prop:=e.key.name.length<=1000000/\e.ab.value.length<=1000000
noncomputable def tz (f:FuncId):Option aN:=bif Nat.beq f Hv then some xJ else bif Nat.beq f HF then some xJ else bif Nat.beq f GP then some (fE (fun _=>True) fun e=>iS e.dot e.over)else bif Nat.beq f rL then some (fE (fun _=>True) iA)else bif Nat.beq f pg then some zZ else yv f
theorem uz:∀g C,tz g=some C->CO g C:=bR Wa (bR Wb (bR YI (bR Lv (bR JL CK))))
theorem Li (x y:aa):x=y↔(x.key.name=y.key.name/\x.key.domain=y.key.domain/\x.key.path=y.key.path)/\x.ab.value=y.ab.value/\x.ab.aG=y.ab.aG/\x.ab.aV=y.ab.aV/\x.ab.aH=y.ab.aH/\x.ab.persistent=y.ab.persistent/\x.ab.aQ=y.ab.aQ/\x.ab.aq=y.ab.aq/\x.ab.access=y.ab.access:=by
 constructor
 . rintro rfl;simp
 . rintro⟨⟨h1,h2,h3⟩,h4⟩
   cases x;cases y;rename_i k c k' c'
   cases k;cases k';cases c;cases c';simp_all
theorem Lx:CO HD (fE lr gm):=bZ (C:=fE lr gm) (cfg:=fun y=>cz tz (cW y)) bC (fun _=>rfl) (fun _=>uz) (n:=800) (by
 rintro⟨d,st,kd,ky,ck,l⟩ ⟨(hn:ky.name.length<=1000000),(hv:ck.value.length<=1000000)⟩
 (conv=>whnf)
 refine⟨d,?_⟩
 repeat' (first|exact trivial|(with_reducible exact rfl)|((conv=>whnf);first|(apply aK<;>intro)|apply And.intro)|((conv=>whnf);refine⟨st,?_⟩;(conv=>whnf);refine⟨rfl,?_⟩)|((conv=>whnf);refine⟨(⟨d,st,kd,ky,ck,l⟩:ae),?_⟩;(conv=>whnf);refine⟨rfl,?_⟩)|((conv=>whnf);refine⟨(⟨ky,ck⟩:aa),?_⟩;(conv=>whnf);refine⟨rfl,?_⟩))
 all_goals first|exact hn|exact hv|skip
 all_goals (simp only[fE,gm,mW,ae.item])
 all_goals (simp_all[Li,bE,qH])
 all_goals trace_state)
def M9 (d:aj) (l:List aj):aI:={α:=Nat,ok:=fun i=>i<=l.length/\ ∀j (h:j<l.length),j<i->jH d l j h=true,μ:=fun i=>l.length - i,aX:=[1],aS:=fun i=>[(3,i64 i)],bw:=fun _=>[]}
theorem UZ:CO rM (fE lr gm):=bZ (C:=fE lr gm) (cfg:=fun(y:ae)=>cz tz (cD rM 4 (M9 y.dot y.over))) bC (fun _=>rfl) (fun _=>uz) (n:=800) (by
 rintro⟨d,st,kd,ky,ck,l⟩ ⟨(hkn:ky.name.length<=1000000),(hv:ck.value.length<=1000000)⟩
 (conv=>whnf)
 refine⟨d,?_⟩
 repeat ((conv=>whnf);first|refine⟨rfl,?_⟩|refine⟨trivial,?_⟩)
 (conv=>whnf)
 refine aK (fun h1=>?_) fun h1=>?_
 . (conv=>whnf)
   refine⟨?_,?_⟩
   . simp only[fE,gm,mW,ae.item];simp_all
   . repeat' (first|exact trivial|exact rfl|((conv=>whnf);first|(apply aK<;>intro)|apply And.intro))
 (conv=>whnf)
 refine⟨st,?_⟩
 repeat ((conv=>whnf);first|refine⟨rfl,?_⟩|refine⟨trivial,?_⟩)
 (conv=>whnf)
 refine aK (fun h2=>?_) fun h2=>?_
 . (conv=>whnf)
   refine⟨?_,?_⟩
   . simp only[fE,gm,mW,ae.item];simp_all
   . repeat' (first|exact trivial|exact rfl|((conv=>whnf);first|(apply aK<;>intro)|apply And.intro))
 (conv=>whnf)
 refine aK (fun h3=>?_) fun h3=>?_
 . (conv=>whnf)
   refine⟨?_,?_⟩
   . simp only[fE,gm,mW,ae.item];simp_all
   . repeat' (first|exact trivial|exact rfl|((conv=>whnf);first|(apply aK<;>intro)|apply And.intro))
 (conv=>whnf)
 refine aK (fun h4=>?_) fun h4=>?_
 . (conv=>whnf)
   refine⟨?_,?_⟩
   . have h4:64<l.length:=by
       have h4:bI 64 (Int.ofNat l.length)=true:=h4;rw[cr,Ad,Ac]at h4;omega
     have:iS d l=false:=by unfold iS;rw[Br (by omega)];rfl
     simp only[fE,gm,mW,ae.item,this,B9,Bb]
   . repeat' (first|exact trivial|exact rfl|((conv=>whnf);first|(apply aK<;>intro)|apply And.intro))
 have h:l.length<=64:=by
   have h4:bI 64 (Int.ofNat l.length)=false:=h4;rw[cr,Ah,Ac]at h4;omega
 have noR:iS d l=false->false=gm ⟨d,st,kd,ky,ck,l⟩:=fun hh=>by simp only[gm,hh,B9,Bb]
 have hd:fk d=true:=by simpa using h1
 have hs:l9 st=true:=by
   have h2:(!l9 st)=false:=h2;simpa using h2
 have he:(st.dev==d.dev)=true:=by
   have h3:(!(st.dev==d.dev))=false:=h3;simpa using h3
 have hR:iS d l=true->gm ⟨d,st,kd,ky,ck,l⟩=(bif kd==2 then mW ⟨ky,ck⟩&&bI 0 (Int.ofNat l.length)else bif kd==1 then sX ⟨ky,ck⟩else false):=fun hh=>by simp only[gm,hd,hs,he,hh,Bj,ae.item]
 clear h1 h2 h3 h4
 (conv=>whnf)
 refine⟨⟨(0:Nat),⟨Aw _,fun _ _ h=>absurd h (Be _)⟩,?_⟩,?_⟩
 . repeat' (first|exact trivial|exact rfl|((conv=>whnf);first|(apply aK<;>intro)|apply And.intro))
 intro (x:Nat) hx;obtain⟨hx,hn'⟩:=hx;have hx:x<=l.length:=hx
 (conv=>whnf)
 refine aK (fun hlt=>?_) fun hge=>?_
 . have hlt':x<l.length:=cB hlt;have no:=Kk (d:=d) hlt';have yes:jH d l x hlt'=true->(M9 d l).ok (x+1:Nat):=fun hy=>⟨hlt',fun j hj hjx=>by
     rcases Ef j x with h1|h1
     . exact hn' j hj h1
     . have e:j=x:=by omega
       subst e;exact hy⟩
   have mu:l.length - (x+1)<l.length - x:=by omega
   (conv=>whnf)
   refine au.2 ⟨_,cO hlt',?_⟩
   (conv=>whnf)
   refine⟨l[x],?_⟩
   repeat ((conv=>whnf);first|refine⟨rfl,?_⟩|refine⟨trivial,?_⟩)
   (conv=>whnf)
   refine aK (fun h1=>?_) fun h1=>?_
   . have h1:fk l[x]=false:=by
       have h1:(!fk l[x])=true:=h1;simpa using h1
     (conv=>whnf)
     refine⟨noR (no (by simp only[jH,h1,Bb])),?_⟩
     repeat' (first|exact trivial|exact rfl|((conv=>whnf);first|(apply aK<;>intro)|apply And.intro))
   have h1:fk l[x]=true:=by
     have h1:(!fk l[x])=false:=h1;simpa using h1
   (conv=>whnf)
   refine ah.2 ⟨fun h2=> ?ga,fun h2=> ?gb⟩
   case' ga=>
     have hx0:0<x:=by
       have h2:bI 0 (x:Int)=true:=h2;rw[cr,Ad]at h2;omega
     have hx1:x - 1<l.length:=by omega
     have hget:l[((x:Int) - 1).toNat]? =some l[x - 1]:=by
       rw[show((x:Int) - 1).toNat=x - 1 by omega,Af hx1]
     (conv=>whnf)
     refine ag.2 ⟨by rw[iq];omega,?_⟩
     (conv=>whnf)
     refine ag.2 ⟨by rw[lO,Ad];omega,?_⟩
     (conv=>whnf)
     refine au.2 ⟨_,hget,?_⟩
     (conv=>whnf)
     refine⟨(l[x - 1],l[x]),?_⟩
     repeat ((conv=>whnf);first|refine⟨rfl,?_⟩|refine⟨trivial,?_⟩)
     (conv=>whnf)
     refine ah.2 ⟨fun h3=> ?gc,fun h3=> ?gd⟩
     case gc=>
       have h3:bS l[x - 1] l[x]=false:=by
         have h3:(!bS l[x - 1] l[x])=true:=h3;simpa using h3
       (conv=>whnf)
       refine⟨noR (no (by simp only[jH,h1,h3,Br (show ¬x=0 by omega),EK,B9,Bb])),?_⟩
       repeat' (first|exact trivial|exact rfl|((conv=>whnf);first|(apply aK<;>intro)|apply And.intro))
     case' gd=>
       have h3:bS l[x - 1] l[x]=true:=by
         have h3:(!bS l[x - 1] l[x])=false:=h3;simpa using h3
       have hA:jH d l x hlt'= !(l[x].dev==d.dev&&l[x].inc==d.inc&&bV d.seq l[x].seq):=by simp only[jH,h1,h3,EV,DM,Bj]
   case' gb=>
     have hx0:x=0:=by
       have h2:bI 0 (x:Int)=false:=h2;rw[cr,Ah]at h2;omega
     have hA:jH d l x hlt'= !(l[x].dev==d.dev&&l[x].inc==d.inc&&bV d.seq l[x].seq):=by simp only[jH,h1,Bg hx0,Eh,DM,Bj]
   all_goals
     (conv=>whnf)
     refine aK (fun h4=>?_) fun h4=>?_
     . have h4:(l[x].dev==d.dev&&l[x].inc==d.inc)=true:=by simpa using h4
       (conv=>whnf)
       refine aK (fun h5=>?_) fun h5=>?_
       . have h5:bV d.seq l[x].seq=true:=h5;rw[h4,h5]at hA
         (conv=>whnf)
         refine⟨noR (no hA),?_⟩
         repeat' (first|exact trivial|exact rfl|((conv=>whnf);first|(apply aK<;>intro)|apply And.intro))
       . have h5:bV d.seq l[x].seq=false:=h5;rw[h4,h5]at hA
         (conv=>whnf)
         refine ag.2 ⟨cu x (by omega),?_⟩
         (conv=>whnf)
         refine⟨(x+1:Nat),yes hA,mu,?_⟩
         repeat' (first|exact trivial|exact rfl|((conv=>whnf);first|(apply aK<;>intro)|apply And.intro))
     . have h4:(l[x].dev==d.dev&&l[x].inc==d.inc)=false:=by
         cases e:(l[x].dev==d.dev&&l[x].inc==d.inc)with
         |false=>rfl
         |true=>
          have e':(l[x].dev==d.dev&&(l[x].inc==d.inc&&true))=false:=h4;rw[DM,e]at e';cases e'
       rw[h4]at hA
       (conv=>whnf)
       refine ag.2 ⟨cu x (by omega),?_⟩
       (conv=>whnf)
       refine⟨(x+1:Nat),yes hA,mu,?_⟩
       repeat' (first|exact trivial|exact rfl|((conv=>whnf);first|(apply aK<;>intro)|apply And.intro))
 . have hge':l.length<=x:=gr hge;have hov:iS d l=true:=by
     unfold iS;rw[Bg h,Bg fun i hi=>hn' i hi (AY hi hge')];rfl
   have hR:=hR hov
   repeat' (first|exact trivial|(with_reducible exact rfl)|((conv=>whnf);first|(apply aK<;>intro)|apply And.intro)|((conv=>whnf);refine⟨(⟨ky,ck⟩:aa),?_⟩;(conv=>whnf);refine⟨rfl,?_⟩))
   all_goals first|exact hkn|exact hv|skip
   all_goals (show _=gm ⟨d,st,kd,ky,ck,l⟩)
   all_goals (rw[hR];simp only[mW];clear hR noR hn')
   all_goals (simp_all[Li,bE,qH])
   all_goals trace_state)
end
section
variable [Inhabited aL]
def fL (x:aj) (a i:Int):Bool:=x.dev==a&&(x.inc==i&&true)
def getM (l:List aj) (a i:Int):Int:=match l.find? (fun x=>fL x a i)with|some x=>x.seq|none=>0
def eI (l:List aj) (d:aj):Bool:=fk d&&bV d.seq (getM l d.dev d.inc)
def me (x:aj) (a i:Int):Bool:=bif !(x.dev==a)then bI x.dev a else bI x.inc i
def fI (a i n:Int) (s:List aj×Bool) (x:aj):List aj×Bool:=
 let s1:=bif !s.2&& !me x a i then(s.1++[⟨a,i,n⟩],true)else s
 bif fL x a i then s1 else(s1.1++[x],s1.2)
def fZ (l:List aj) (a i n:Int):List aj:=let s:=l.foldl (fI a i n) ([],false);bif s.2 then s.1 else s.1++[⟨a,i,n⟩]
def qe (l:List aj):Prop:=l.length<=100000
def NP:aN:={Y:=List aj×Int×Int,pre:=fun y=>qe y.1,args:=fun y=>[cL y.1, .agg [i64 y.2.1,i64 y.2.2]],res:=fun y=>i64 (getM y.1 y.2.1 y.2.2)}
def Pq (y:List aj×Int×Int):aI:={α:=Nat,ok:=fun x=>x<=y.1.length/\ ∀j (h:j<y.1.length),j<x->fL y.1[j] y.2.1 y.2.2=false,μ:=fun x=>y.1.length - x,aX:=[3],aS:=fun x=>[(0,cL y.1),(5,i64 x)],bw:=fun _=>[]}
def NR:aN:={Y:=List aj×aj,pre:=fun y=>qe y.1,args:=fun y=>[cL y.1, .agg y.2.enc],res:=fun y=> .bool (eI y.1 y.2)}
def Mb:aN:={Y:=aj×Int×Int,pre:=fun _=>True,args:=fun y=>[.agg [i64 y.1.dev,i64 y.1.inc], .agg [i64 y.2.1,i64 y.2.2]],res:=fun y=> .bool (me y.1 y.2.1 y.2.2)}
def Nz:aN:={Y:=List aj×Int×Int×Int,pre:=fun y=>qe y.1,args:=fun y=>[cL y.1, .agg [i64 y.2.1,i64 y.2.2.1],i64 y.2.2.2],res:=fun y=>cL (fZ y.1 y.2.1 y.2.2.1 y.2.2.2)}
def cC (y:List aj×Int×Int×Int) (x:Nat):List aj×Bool:=(y.1.take x).foldl (fI y.2.1 y.2.2.1 y.2.2.2) ([],false)
def Pu (y:List aj×Int×Int×Int):aI:={α:=Nat,ok:=fun x=>x<=y.1.length,μ:=fun x=>y.1.length - x,aX:=[4],aS:=fun x=>[(0,cL y.1),(2,i64 y.2.2.2),(7, .own 1),(8, .bool (cC y x).2),(9,i64 x)],bw:=fun x=>[(1, .arr aj (cC y x).1 aj.enc Ic)]}
theorem Us {α:Type} {p:α->Bool} {l:List α} (h:∀j (h:j<l.length),p l[j]=false):l.find? p=none:=by
 rw[Ek];intro x hx;obtain⟨j,hj,rfl⟩:=Bn hx;rw[h j hj];simp
theorem XD {α:Type} {p:α->Bool} {l:List α} {x:Nat} (hx:x<l.length) (h:∀j (h:j<l.length),j<x->p l[j]=false) (hp:p l[x]=true):l.find? p=some l[x]:=by
 rw[List.find?_eq_some_iff_getElem];exact⟨hp,x,hx,rfl,fun j hj=>by rw[h j (by omega) hj];rfl⟩
theorem VU:CO HI Mb:=bZ (cfg:=fun y=>cz tz (cW y)) bC (fun _=>rfl) (fun _=>uz) (n:=400) (by
 rintro⟨⟨a,b,c⟩,d,e⟩ -
 repeat' (first|exact trivial|exact rfl|((conv=>whnf);first|(apply aK<;>intro)|apply And.intro))
 all_goals (simp_all[me,Bool.cond_eq_ite]))
theorem Zj:CO G4 NP:=bZ (cfg:=fun y=>cz tz (cD G4 2 (Pq y))) bC (fun _=>rfl) (fun _=>uz) (n:=400) (by
 rintro⟨l,a,i⟩ (hl:l.length<=100000)
 (conv=>whnf)
 refine⟨⟨(0:Nat),⟨Aw _,fun _ _ h=>absurd h (Be _)⟩,?_⟩,?_⟩
 . repeat' (first|exact trivial|exact rfl|((conv=>whnf);first|(apply aK<;>intro)|apply And.intro))
 intro (x:Nat) hx;obtain⟨hx,hn⟩:=hx;have hx:x<=l.length:=hx;have hn:∀j (h:j<l.length),j<x->fL l[j] a i=false:=hn
 (conv=>whnf)
 refine aK (fun hlt=>?_) fun hge=>?_
 . have hlt':x<l.length:=cB hlt
   (conv=>whnf)
   refine au.2 ⟨_,cO hlt',?_⟩
   (conv=>whnf)
   refine aK (fun h=>?_) fun h=>?_
   . have h:fL l[x] a i=true:=h
     (conv=>whnf)
     refine au.2 ⟨_,cO hlt',?_⟩
     (conv=>whnf)
     refine⟨?_,?_⟩
     . show l[x].seq=getM l a i
       unfold getM;rw[XD hlt' hn h]
     . repeat' (first|exact trivial|exact rfl|((conv=>whnf);first|(apply aK<;>intro)|apply And.intro))
   . have h:fL l[x] a i=false:=h
     (conv=>whnf)
     refine ag.2 ⟨cu x (by omega),?_⟩
     (conv=>whnf)
     refine⟨(x+1:Nat),⟨hlt',fun j hj hjx=>?_⟩,by show l.length - (x+1)<l.length - x;omega,?_⟩
     . rcases Ef j x with h1|h1
       . exact hn j hj h1
       . have e:j=x:=by omega
         subst e;exact h
     . repeat' (first|exact trivial|exact rfl|((conv=>whnf);first|(apply aK<;>intro)|apply And.intro))
 . have hge':l.length<=x:=gr hge
   (conv=>whnf)
   refine⟨?_,?_⟩
   . show 0=getM l a i
     unfold getM;rw[Us fun j hj=>hn j hj (by omega)]
   . repeat' (first|exact trivial|exact rfl|((conv=>whnf);first|(apply aK<;>intro)|apply And.intro)))
noncomputable def yw (f:FuncId):Option aN:=bif Nat.beq f HD then some (fE lr gm)else bif Nat.beq f rM then some (fE lr gm)else bif Nat.beq f HI then some Mb else bif Nat.beq f G4 then some NP else tz f
theorem CL:∀g C,yw g=some C->CO g C:=bR Lx (bR UZ (bR VU (bR Zj uz)))
theorem Zm:CO Hp NR:=bZ (cfg:=fun y=>cz yw (cW y)) bC (fun _=>rfl) (fun _=>CL) (n:=400) (by
 rintro⟨l,d⟩ (hl:l.length<=100000)
 (conv=>whnf)
 refine⟨d,?_⟩
 repeat ((conv=>whnf);first|refine⟨rfl,?_⟩|refine⟨trivial,?_⟩)
 (conv=>whnf)
 refine aK (fun h=>?_) fun h=>?_
 . have h:fk d=true:=h
   (conv=>whnf)
   refine⟨(l,d.dev,d.inc),?_⟩
   repeat ((conv=>whnf);first|refine⟨rfl,?_⟩|refine⟨trivial,?_⟩)
   refine⟨hl,?_⟩
   (conv=>whnf)
   refine⟨?_,?_⟩
   . show bV d.seq (getM l d.dev d.inc)=eI l d
     unfold eI;rw[h];rfl
   . repeat' (first|exact trivial|exact rfl|((conv=>whnf);first|(apply aK<;>intro)|apply And.intro))
 . have h:fk d=false:=h
   (conv=>whnf)
   refine⟨?_,?_⟩
   . show false=eI l d
     unfold eI;rw[h];rfl
   . repeat' (first|exact trivial|exact rfl|((conv=>whnf);first|(apply aK<;>intro)|apply And.intro)))
theorem Sm (a i n:Int) (s:List aj×Bool) (x:aj):(fI a i n s x).1.length<=s.1.length+2:=by
 unfold fI
 cases(!s.2&& !me x a i)<;>cases fL x a i<;>simp
theorem CI (y:List aj×Int×Int×Int):∀{x:Nat},x<=y.1.length->(cC y x).1.length<=2*x
 |0,_=>by simp[cC]
 |x+1,h=>by
  have h1:=CI y (x:=x) (by omega);have h2:cC y (x+1)=fI y.2.1 y.2.2.1 y.2.2.2 (cC y x) y.1[x]:=ln _ _ h;have h3:=Sm y.2.1 y.2.2.1 y.2.2.2 (cC y x) y.1[x];rw[h2];omega
theorem Zw:CO G5 Nz:=bZ (cfg:=fun y=>cz yw (cD G5 4 (Pu y))) bC (fun _=>rfl) (fun _=>CL) (n:=600) (by
 rintro⟨l,a,i,n⟩ (hl:l.length<=100000)
 (conv=>whnf)
 refine⟨⟨(0:Nat),Aw _,?_⟩,?_⟩
 . repeat' (first|exact trivial|exact rfl|((conv=>whnf);first|(apply aK<;>intro)|apply And.intro))
 intro (x:Nat) hx;have hx:x<=l.length:=hx
 (conv=>whnf)
 refine aK (fun hlt=>?_) fun hge=>?_
 . have hlt':x<l.length:=cB hlt;have hf:cC (l,a,i,n) (x+1)=fI a i n (cC (l,a,i,n) x) l[x]:=ln _ _ hlt';have hlen:(cC (l,a,i,n) x).1.length<=2*x:=CI _ hx;have ap:∀M:List aj,M.length<=300000->(Nat.ble ((M.length+1)*24) 16777216&&Nat.ble (M.length+1) 16777216)=true:=fun M h=>by
     rw[Aa,AG,AG];omega
   have mu:l.length - (x+1)<l.length - x:=by omega
   have hL1:(cC (l,a,i,n) x).1.length<=300000:=by omega
   have hL2:((cC (l,a,i,n) x).1++[(⟨a,i,n⟩:aj)]).length<=300000:=by simp;omega
   (conv=>whnf)
   refine ah.2 ⟨fun h1=> ?ga,fun h1=> ?gb⟩
   case' ga=>
     have h1:(cC (l,a,i,n) x).2=false:=by simpa using h1
     (conv=>whnf)
     refine au.2 ⟨_,cO hlt',?_⟩
     (conv=>whnf)
     refine⟨(l[x],a,i),?_⟩
     repeat ((conv=>whnf);first|refine⟨rfl,?_⟩|refine⟨trivial,?_⟩)
     (conv=>whnf)
     refine ah.2 ⟨fun h2=> ?gc,fun h2=> ?gd⟩
     case' gc=>
       have h2:me l[x] a i=false:=by
        have h2:(!me l[x] a i)=true:=h2;simpa using h2
       have hst:fI a i n (cC (l,a,i,n) x) l[x]=(bif fL l[x] a i then((cC (l,a,i,n) x).1++[⟨a,i,n⟩],true)else((cC (l,a,i,n) x).1++[⟨a,i,n⟩]++[l[x]],true)):=by
        simp only[fI,h1,h2,De,EL,Bh]
       (conv=>whnf)
       refine⟨(⟨a,i,n⟩:aj),rfl,?_⟩
       (conv=>whnf)
       refine ag.2 ⟨ap _ hL1,?_⟩
     case' gd=>
       have h2:me l[x] a i=true:=by
        have h2:(!me l[x] a i)=false:=h2;simpa using h2
       have hst:fI a i n (cC (l,a,i,n) x) l[x]=(bif fL l[x] a i then((cC (l,a,i,n) x).1,(cC (l,a,i,n) x).2)else((cC (l,a,i,n) x).1++[l[x]],(cC (l,a,i,n) x).2)):=by
        simp only[fI,h1,h2,BN,B9,AS]
        cases fL l[x] a i<;>simp[<-h1]
   case' gb=>
     have h1:(cC (l,a,i,n) x).2=true:=by simpa using h1
     have hst:fI a i n (cC (l,a,i,n) x) l[x]=(bif fL l[x] a i then((cC (l,a,i,n) x).1,(cC (l,a,i,n) x).2)else((cC (l,a,i,n) x).1++[l[x]],(cC (l,a,i,n) x).2)):=by
       simp only[fI,h1,BN,Bb,AS]
       cases fL l[x] a i<;>simp[<-h1]
   all_goals
     rw[hst]at hf
     (conv=>whnf)
     refine au.2 ⟨_,cO hlt',?_⟩
     (conv=>whnf)
     refine aK (fun h3=>?_) fun h3=>?_
     . have h3:fL l[x] a i=false:=by
        have h3:(!fL l[x] a i)=true:=h3;simpa using h3
       rw[h3,AS]at hf
       (conv=>whnf)
       refine au.2 ⟨_,cO hlt',?_⟩
       (conv=>whnf)
       refine⟨l[x],rfl,?_⟩
       (conv=>whnf)
       refine ag.2 ⟨by first|exact ap _ hL1|exact ap _ hL2,?_⟩
       (conv=>whnf)
       refine ag.2 ⟨cu x (by omega),?_⟩
       (conv=>whnf)
       refine⟨(x+1:Nat),hlt',mu,?_⟩
       repeat' (first|exact trivial|exact rfl|((conv=>whnf);first|(apply aK<;>intro)|apply And.intro))
       all_goals ((conv=>whnf);rw[hf])
     . have h3:fL l[x] a i=true:=by
        have h3:(!fL l[x] a i)=false:=h3;simpa using h3
       rw[h3,Bh]at hf
       (conv=>whnf)
       refine ag.2 ⟨cu x (by omega),?_⟩
       (conv=>whnf)
       refine⟨(x+1:Nat),hlt',mu,?_⟩
       repeat' (first|exact trivial|exact rfl|((conv=>whnf);first|(apply aK<;>intro)|apply And.intro))
       all_goals ((conv=>whnf);rw[hf])
 . have hge':l.length<=x:=gr hge;have hall:fZ l a i n=(bif (cC (l,a,i,n) x).2 then(cC (l,a,i,n) x).1 else(cC (l,a,i,n) x).1++[⟨a,i,n⟩]):=by
     unfold fZ cC;rw[Ay hge']
   have hlen:(cC (l,a,i,n) x).1.length<=2*x:=CI _ hx
   (conv=>whnf)
   refine aK (fun h1=>?_) fun h1=>?_
   . have h1:(cC (l,a,i,n) x).2=false:=by simpa using h1
     rw[h1,AS]at hall
     (conv=>whnf)
     refine⟨(⟨a,i,n⟩:aj),rfl,?_⟩
     (conv=>whnf)
     refine ag.2 ⟨by show(Nat.ble (((cC (l,a,i,n) x).1.length+1)*24) 16777216&&Nat.ble ((cC (l,a,i,n) x).1.length+1) 16777216)=true;rw[Aa,AG,AG];omega,?_⟩
     (conv=>whnf)
     refine⟨by rw[hall],?_⟩
     repeat' (first|exact trivial|exact rfl|((conv=>whnf);first|(apply aK<;>intro)|apply And.intro))
   . have h1:(cC (l,a,i,n) x).2=true:=by simpa using h1
     rw[h1,Bh]at hall
     (conv=>whnf)
     refine⟨by rw[hall],?_⟩
     repeat' (first|exact trivial|exact rfl|((conv=>whnf);first|(apply aK<;>intro)|apply And.intro)))
noncomputable def Gl (f:FuncId):Option aN:=bif Nat.beq f Hp then some NR else bif Nat.beq f G5 then some Nz else yw f
theorem LO:∀g C,Gl g=some C->CO g C:=bR Zm (bR Zw CL)
end
end Go.Proofs
