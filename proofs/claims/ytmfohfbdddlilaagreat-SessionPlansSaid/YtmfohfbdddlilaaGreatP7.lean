/- Part 7: an evaluator, proved sound, and its use at this seat; no condition. -/
import Derived.Test.YtmfohfbdddlilaaGreatP6
set_option linter.unusedSimpArgs false
set_option linter.unusedVariables false
set_option linter.unusedSectionVars false
set_option linter.deprecated false
set_option maxRecDepth 100000
set_option maxHeartbeats 4000000
namespace Go.Proofs
open Go Go.Am Go.RowKit Go.Sy
section
variable [Inhabited aL]
def YA:aM:={Y:=Bs,pre:=fun y=>y.length<=1000000,args:=fun y=>[.str y],res:=fun y=> .str (eY y)}
noncomputable def uU (f:FuncId):Option aM:=bif Nat.beq f Hj then some YA else bif Nat.beq f qQ then some Mu else F1 f
theorem wI:∀g C,uU g=some C->CO g C:=bG Ym (bG Ys KB)
def lB (s:Bs):Bs×Int:=if 256<s.length then([],3)else if dQ (eY s)||ib (eY s)then(eY s,0)else([],1)
def nH (s:Bs):Bool:=bU (Int.ofNat s.length) 256&&(dQ s||ib s)
def MT:aM:={Y:=Bs,pre:=fun _=>True,args:=fun y=>[.str y],res:=fun y=> .bJ [.str (lB y).1,i64 (lB y).2]}
def LR:aM:={Y:=Bs,pre:=fun _=>True,args:=fun y=>[.str y],res:=fun y=> .bool (nH y)}
def lz (s:Bs):Bool:= !s.any ef&&(cQ s 59).isNone&&decide (kx s=s)
def LB:aM:={Y:=Bs,pre:=fun y=>y.length<=1000000,args:=fun y=>[.str y],res:=fun y=> .bool (lz y)}
def xq (x:bo):Bool:=within x.aP (-1099511627776) 1099511627776&&within x.aq 0 1099511627776&&within x.access 0 1099511627776&&(x.persistent||x.aP==1099511627776)
def sD (x:aa):Bool:= !(x.key.name==[])&&bU (Int.ofNat x.key.name.length) 256&&lz x.key.name&&(cQ x.key.name 61).isNone&&bU (Int.ofNat x.ab.value.length) 1024&&lz x.ab.value&&nH x.key.domain&&decide (x.key.path.head? =some 47)&&bU (Int.ofNat x.key.path.length) 256&&xq x.ab
def xj:aM:={Y:=aa,pre:=fun y=>y.key.name.length<=1000000/\y.ab.value.length<=1000000,args:=fun y=>[.agg y.enc],res:=fun y=> .bool (sD y)}
theorem TM (s:Bs):(eY s).length=s.length:=by simp[eY]
theorem W6:CO HA MT:=bO (cfg:=fun y=>cg uU (cS y)) bA (fun _=>rfl) (fun _=>wI) (n:=600) (by
 intro (s:Bs) _
 (conv=>whnf)
 refine aJ (fun h=>?_) fun h=>?_
 . have h:256<s.length:=by
     have h:bw 256 (Int.ofNat s.length)=true:=h;rw[cj,Ab,Aa]at h;omega
   have e:lB s=([],3):=by unfold lB;rw[An h]
   (conv=>whnf)
   refine⟨by rw[e],?_⟩
   (conv=>whnf)
   refine⟨by rw[e],?_⟩
   repeat' (first|exact trivial|exact rfl|((conv=>whnf);first|(apply aJ<;>intro)|apply And.intro))
 have h:¬256<s.length:=by
   have h:bw 256 (Int.ofNat s.length)=false:=h;rw[cj,Ah,Aa]at h;omega
 have hl:=TM s
 (conv=>whnf)
 refine⟨s,?_⟩
 repeat ((conv=>whnf);first|refine⟨rfl,?_⟩|refine⟨trivial,?_⟩)
 refine⟨by show s.length<=1000000;omega,?_⟩
 (conv=>whnf)
 refine⟨eY s,?_⟩
 repeat ((conv=>whnf);first|refine⟨rfl,?_⟩|refine⟨trivial,?_⟩)
 refine⟨by show(eY s).length<=100000;omega,?_⟩;have bad:(dQ (eY s)||ib (eY s))=false->lB s=([],1):=fun hn=>by unfold lB;rw[Aj h,hn];rfl
 have good:(dQ (eY s)||ib (eY s))=true->lB s=(eY s,0):=fun hn=>by unfold lB;rw[Aj h,hn];rfl
 (conv=>whnf)
 refine aJ (fun hn=>?_) fun hn=>?_
 . have hn:dQ (eY s)=false:=by simpa using hn
   rw[hn,Bool.false_or]at bad good
   (conv=>whnf)
   refine⟨eY s,?_⟩
   repeat ((conv=>whnf);first|refine⟨rfl,?_⟩|refine⟨trivial,?_⟩)
   refine⟨by show(eY s).length<=100000;omega,?_⟩
   (conv=>whnf)
   refine aJ (fun ha=>?_) fun ha=>?_
   . have e:=bad (by simpa using ha)
     (conv=>whnf)
     refine⟨by rw[e],?_⟩
     (conv=>whnf)
     refine⟨by rw[e],?_⟩
     repeat' (first|exact trivial|exact rfl|((conv=>whnf);first|(apply aJ<;>intro)|apply And.intro))
   . have e:=good (by simpa using ha)
     (conv=>whnf)
     refine⟨by rw[e],?_⟩
     (conv=>whnf)
     refine⟨by rw[e],?_⟩
     repeat' (first|exact trivial|exact rfl|((conv=>whnf);first|(apply aJ<;>intro)|apply And.intro))
 . have hn:dQ (eY s)=true:=by simpa using hn
   have e:=good (by rw[hn];rfl)
   (conv=>whnf)
   refine⟨by rw[e],?_⟩
   (conv=>whnf)
   refine⟨by rw[e],?_⟩
   repeat' (first|exact trivial|exact rfl|((conv=>whnf);first|(apply aJ<;>intro)|apply And.intro)))
theorem Wp:CO vp LR:=bO (cfg:=fun y=>cg uU (cS y)) bA (fun _=>rfl) (fun _=>wI) (n:=600) (by
 intro (s:Bs) _
 (conv=>whnf)
 refine aJ (fun h=>?_) fun h=>?_
 . have h:bU (Int.ofNat s.length) 256=true:=h;have hl:s.length<=100000:=by rw[fi,Ab,Aa]at h;omega
   (conv=>whnf)
   refine⟨s,?_⟩
   repeat ((conv=>whnf);first|refine⟨rfl,?_⟩|refine⟨trivial,?_⟩)
   refine⟨hl,?_⟩
   (conv=>whnf)
   refine aJ (fun hn=>?_) fun hn=>?_
   . have hn:dQ s=true:=hn
     (conv=>whnf)
     refine⟨by show true=nH s;simp only[nH,h,hn,D9,E4],?_⟩
     repeat' (first|exact trivial|exact rfl|((conv=>whnf);first|(apply aJ<;>intro)|apply And.intro))
   . have hn:dQ s=false:=hn
     (conv=>whnf)
     refine⟨s,?_⟩
     repeat ((conv=>whnf);first|refine⟨rfl,?_⟩|refine⟨trivial,?_⟩)
     refine⟨hl,?_⟩
     (conv=>whnf)
     refine⟨by show ib s=nH s;simp only[nH,h,hn,Bool.false_or,Bp],?_⟩
     repeat' (first|exact trivial|exact rfl|((conv=>whnf);first|(apply aJ<;>intro)|apply And.intro))
 . have h:bU (Int.ofNat s.length) 256=false:=h
   (conv=>whnf)
   refine⟨by show false=nH s;simp only[nH,h,Bg],?_⟩
   repeat' (first|exact trivial|exact rfl|((conv=>whnf);first|(apply aJ<;>intro)|apply And.intro)))
theorem VM:CO Hr LB:=bO (cfg:=fun y=>cg uU (cS y)) bA (fun _=>rfl) (fun _=>wI) (n:=600) (by
 intro (s:Bs) (hs:s.length<=1000000)
 (conv=>whnf)
 refine⟨s,?_⟩
 repeat ((conv=>whnf);first|refine⟨rfl,?_⟩|refine⟨trivial,?_⟩)
 refine⟨hs,?_⟩
 (conv=>whnf)
 refine aJ (fun h=>?_) fun h=>?_
 . have h:s.any ef=false:=by
     have h:(!s.any ef)=true:=h
     cases e:s.any ef with
     |false=>rfl
     |true=>rw[e]at h;cases h
   (conv=>whnf)
   refine⟨(s,59),?_⟩
   repeat ((conv=>whnf);first|refine⟨rfl,?_⟩|refine⟨trivial,?_⟩)
   refine⟨hs,?_⟩;have hf:bw (gT s 59) 0=(cQ s 59).isNone:=by
     rcases wk s 59 with⟨i,h1,h2,h3⟩|⟨h1,h2⟩
     . rw[h1,h2,cj,Bq];rfl;omega
     . rw[h1,h2];rfl
   (conv=>whnf)
   refine aJ (fun h2=>?_) fun h2=>?_
   . have h2:(cQ s 59).isNone=true:=by rw[<-hf];exact h2
     (conv=>whnf)
     refine⟨s,?_⟩
     repeat ((conv=>whnf);first|refine⟨rfl,?_⟩|refine⟨trivial,?_⟩)
     refine⟨hs,?_⟩
     (conv=>whnf)
     refine⟨?_,?_⟩
     . show(kx s==s)=lz s
       simp only[lz,h,h2,Du,Bp];rw[AN];simp
     . repeat' (first|exact trivial|exact rfl|((conv=>whnf);first|(apply aJ<;>intro)|apply And.intro))
   . have h2:(cQ s 59).isNone=false:=by rw[<-hf];exact h2
     (conv=>whnf)
     refine⟨by show false=lz s;simp only[lz,h2,BW,Bg],?_⟩
     repeat' (first|exact trivial|exact rfl|((conv=>whnf);first|(apply aJ<;>intro)|apply And.intro))
 . have h:s.any ef=true:=by
     have h:(!s.any ef)=false:=h
     cases e:s.any ef with
     |true=>rfl
     |false=>rw[e]at h;cases h
   (conv=>whnf)
   refine⟨by show false=lz s;simp only[lz,h,BV,Bg],?_⟩
   repeat' (first|exact trivial|exact rfl|((conv=>whnf);first|(apply aJ<;>intro)|apply And.intro)))
theorem wz {b:UInt8} {c:Int}:∀{s:Bs},b∈s->nB b=c\/ ∃p∈aX s c,b∈p
 | x :: s,h=>by
  simp only[aX];by_cases hx:nB x=c
  . rw[An hx];rcases Ak.1 h with rfl|h
    . exact .inl hx
    . rcases wz (c:=c) h with h|⟨p,hp,hb⟩
      . exact .inl h
      . exact .inr ⟨p,AB _ hp,hb⟩
  . rw[Aj hx];have ih:b∈s->nB b=c\/ ∃p∈aX s c,b∈p:=fun h=>wz h
    cases e:aX s c with
    |nil=>exact absurd e (zV s c)
    | cons q t=>
      rw[e]at ih;rcases Ak.1 h with rfl|h
      . exact .inr ⟨b::q,Ar,Ar⟩
      . rcases ih h with h|⟨p,hp,hb⟩
        . exact .inl h
        . rcases Ak.1 hp with rfl|hp
          . exact .inr ⟨x::p,Ar,AB _ hb⟩
          . exact .inr ⟨p,AB _ hp,hb⟩
theorem Wa {b:UInt8} (h:nB b<65\/90<nB b):jr b=b:=by
 unfold jr;unfold nB at h;simp only[Aa]at h;rw[Aj (by omega)]
theorem zr {s:Bs} (h:∀b∈s,nB b<65\/90<nB b):eY s=s:=by
 have e:s.map jr=s.map id:=Db fun b hb=>Wa (h b hb)
 rw[Fm]at e;exact e
theorem SB {s:Bs} (h:dQ s=true):eY s=s:=by
 simp only[dQ,Ac,AJ]at h;refine zr fun b hb=>?_
 rcases wz (c:=46) hb with h1|⟨p,hp,hb⟩
 . omega
 . have h2:=h.2 p hp;simp only[eO,Ac,AJ]at h2;have h3:=h2.1.1.2 b hb;simp only[gV,BF,Ac,Ab,BM]at h3;omega
theorem Sd {s:Bs} (h:ib s=true):eY s=s:=by
 unfold ib at h;rcases BF .. ▸h with h|h
 . simp only[fC,Ac,AJ]at h;refine zr fun b hb=>?_
   rcases wz (c:=46) hb with h1|⟨p,hp,hb⟩
   . omega
   . have h2:=h.2 p hp;simp only[gP,Ac,Ab]at h2;have h3:=wi (s:=p) (by omega) b hb;simp only[dA,Ac,Ab]at h3;omega
 . simp only[fj,Ac,AJ,Ab,BM]at h;obtain⟨⟨⟨⟨h1,h2⟩,h3⟩,h4⟩,h5⟩:=h
   cases s with
   |nil=>simp at h1
   | cons x s=>
     simp only[Es,A3]at h3;subst h3;rcases List.eq_nil_or_concat s with rfl|⟨t,z,rfl⟩
     . simp at h1
     . have hz:z=93:=by
         rw[show(91::t.concat z:Bs)=(91::t)++[z] by simp,List.getLast?_concat]at h4;simpa using h4
       subst hz;have e:((91::t.concat 93:Bs).drop 1).take ((91::t.concat 93:Bs).length - 2)=t:=by simp[Fi]
       rw[e]at h5;refine zr fun b hb=>?_
       simp only[Ak,Fi,A7,BN,Dr]at hb;rcases hb with rfl|hb|rfl
       . right;decide
       . have h6:=h5 b hb;simp only[di,BF,Ac,Ab,BM]at h6;omega
       . right;decide
theorem Tp (s:Bs):(decide ((lB s).2=0)&&decide ((lB s).1=s))=nH s:=by
 rw[AN];unfold lB nH;simp only[Ac,Ab,fi,Aa];by_cases h:256<s.length
 . rw[An h];simp;omega
 . rw[Aj h];constructor
   . intro hh;split at hh
     . rename_i hn;have e:eY s=s:=hh.2;rw[e]at hn;exact⟨by omega,hn⟩
     . simp at hh
   . rintro⟨_,hn⟩;have e:eY s=s:=by
       rcases BF .. ▸hn with hn|hn
       . exact SB hn
       . exact Sd hn
     rw[e,An hn];exact⟨rfl,rfl⟩
noncomputable def xY (f:FuncId):Option aM:=bif Nat.beq f HA then some MT else bif Nat.beq f vp then some LR else bif Nat.beq f Hr then some LB else uU f
theorem Ci:∀g C,xY g=some C->CO g C:=bG W6 (bG Wp (bG VM wI))
def FI (x:aa):Bool:= !(x.key.name==[])&&jz x.key.name 256 [59,61]&&jz x.ab.value 1024 [59]&&((lB x.key.domain).2==0)&&((lB x.key.domain).1==x.key.domain)&&decide (x.key.path.head? =some 47)&&bU (Int.ofNat x.key.path.length) 256&&xq x.ab
theorem UJ (x:aa):FI x=sD x:=by
 have h1:∀(s:Bs) (m:Int),jz s m [59]=(bU (Int.ofNat s.length) m&&lz s):=fun s m=>by
  unfold jz lz;rw[AN];simp[nB];grind
 have h2:jz x.key.name 256 [59,61]=(bU (Int.ofNat x.key.name.length) 256&&lz x.key.name&&(cQ x.key.name 61).isNone):=by
  unfold jz lz;rw[AN];simp[nB];grind
 have h3:=Tp x.key.domain;unfold FI sD;rw[h1,h2,<-h3];rw[AN];simp;grind
theorem Nn (b:UInt8):b=47↔(b.toNat:Int)=47:=by
 constructor
 . rintro rfl;rfl
 . intro h;exact Er.1 (by rw[show(47:UInt8).toNat=47 from rfl];omega)
theorem VQ:CO Hf xj:=bO (cfg:=fun y=>cg xY (cS y)) bA (fun _=>rfl) (fun _=>Ci) (n:=800) (by
 rintro⟨⟨n,d,p⟩,v,b1,b2,b3,b4,e,c,a⟩ ⟨(hn:n.length<=1000000),(hv:v.length<=1000000)⟩;rcases p with _|⟨p0,p⟩
 all_goals
  (conv=>whnf)
  refine⟨d,?_⟩
  repeat ((conv=>whnf);first|refine⟨rfl,?_⟩|refine⟨trivial,?_⟩)
  (conv=>whnf)
  refine⟨(e, -1099511627776,1099511627776),?_⟩
  repeat' (first|exact trivial|(with_reducible exact rfl)|((conv=>whnf);first|(apply aJ<;>intro)|apply And.intro)|((conv=>whnf);refine⟨(c,0,1099511627776),?_⟩;(conv=>whnf);refine⟨rfl,?_⟩)|((conv=>whnf);refine⟨(a,0,1099511627776),?_⟩;(conv=>whnf);refine⟨rfl,?_⟩)|((conv=>whnf);refine⟨(n,256,[59,61]),?_⟩;(conv=>whnf);refine⟨rfl,?_⟩)|((conv=>whnf);refine⟨(v,1024,[59]),?_⟩;(conv=>whnf);refine⟨rfl,?_⟩))
 all_goals first|exact hn|exact hv|exact rfl|(show(2:Nat)<=100;decide)|(show(1:Nat)<=100;decide)|skip
 all_goals (rw[<-UJ])
 all_goals (simp_all[FI,xq,Nn]))
end
section
variable [Inhabited aL]
theorem Xm (s:Bs) (c:Int):bU 0 (gT s c)= !(cQ s c).isNone:=by
 rcases wk s c with⟨i,h1,h2,h3⟩|⟨h1,h2⟩
 . rw[h1,h2,fi,Bj (by omega)];rfl
 . rw[h1,h2];rfl
theorem WU (a b:Int):bw a b= !bU b a:=by
 rw[cj,fi,AN,Ab,AS,Ah];omega
theorem VR:CO Hq xj:=bO (cfg:=fun y=>cg xY (cS y)) bA (fun _=>rfl) (fun _=>Ci) (n:=800) (by
 rintro⟨⟨n,d,p⟩,v,b1,b2,b3,b4,e,c,a⟩ ⟨(hn:n.length<=1000000),(hv:v.length<=1000000)⟩;rcases p with _|⟨p0,p⟩
 all_goals
  repeat' (first|exact trivial|(with_reducible exact rfl)|((conv=>whnf);first|(apply aJ<;>intro)|apply And.intro)|((conv=>whnf);refine⟨n,?_⟩;(conv=>whnf);refine⟨rfl,?_⟩)|((conv=>whnf);refine⟨v,?_⟩;(conv=>whnf);refine⟨rfl,?_⟩)|((conv=>whnf);refine⟨d,?_⟩;(conv=>whnf);refine⟨rfl,?_⟩)|((conv=>whnf);refine⟨(n,61),?_⟩;(conv=>whnf);refine⟨rfl,?_⟩))
 all_goals first|exact hn|exact hv|exact rfl|skip
 all_goals (simp only[sD,xq,within])
 all_goals (simp_all[WU,Xm,Nn,Eg])
 all_goals trace_state)
end
section
variable [Inhabited aL]
def pB (x:aa):Bool:=decide (x=je)
def gB (e:ae):Bool:=fB e.dot&&oq e.bu&&(e.bu.dev==e.dot.dev)&&jy e.dot e.over&&(bif e.kind==2 then pB e.item&&bw 0 (Int.ofNat e.over.length)else bif e.kind==1 then sD e.item else false)
def kY (e:ae):Prop:=e.key.name.length<=1000000/\e.ab.value.length<=1000000
noncomputable def sP (f:FuncId):Option aM:=bif Nat.beq f Hf then some xj else bif Nat.beq f Hq then some xj else bif Nat.beq f Gw then some (fw (fun _=>True) fun e=>jy e.dot e.over)else bif Nat.beq f ri then some (fw (fun _=>True) iy)else bif Nat.beq f oM then some zI else xY f
theorem ui:∀g C,sP g=some C->CO g C:=bG VQ (bG VR (bG Yp (bG KY (bG Jf Ci))))
theorem Lm (x y:aa):x=y↔(x.key.name=y.key.name/\x.key.domain=y.key.domain/\x.key.path=y.key.path)/\x.ab.value=y.ab.value/\x.ab.aF=y.ab.aF/\x.ab.aV=y.ab.aV/\x.ab.aG=y.ab.aG/\x.ab.persistent=y.ab.persistent/\x.ab.aP=y.ab.aP/\x.ab.aq=y.ab.aq/\x.ab.access=y.ab.access:=by
 constructor
 . rintro rfl;simp
 . rintro⟨⟨h1,h2,h3⟩,h4⟩
   cases x;cases y;rename_i k c k' c'
   cases k;cases k';cases c;cases c';simp_all
theorem KZ:CO Ho (fw kY gB):=bO (C:=fw kY gB) (cfg:=fun y=>cg sP (cS y)) bA (fun _=>rfl) (fun _=>ui) (n:=800) (by
 rintro⟨d,st,kd,ky,ck,l⟩ ⟨(hn:ky.name.length<=1000000),(hv:ck.value.length<=1000000)⟩
 (conv=>whnf)
 refine⟨d,?_⟩
 repeat' (first|exact trivial|(with_reducible exact rfl)|((conv=>whnf);first|(apply aJ<;>intro)|apply And.intro)|((conv=>whnf);refine⟨st,?_⟩;(conv=>whnf);refine⟨rfl,?_⟩)|((conv=>whnf);refine⟨(⟨d,st,kd,ky,ck,l⟩:ae),?_⟩;(conv=>whnf);refine⟨rfl,?_⟩)|((conv=>whnf);refine⟨(⟨ky,ck⟩:aa),?_⟩;(conv=>whnf);refine⟨rfl,?_⟩))
 all_goals first|exact hn|exact hv|skip
 all_goals (simp only[fw,gB,pB,ae.item])
 all_goals (simp_all[Lm,je,ql])
 all_goals trace_state)
def MR (d:ar) (l:List ar):aH:={α:=Nat,ok:=fun i=>i<=l.length/\ ∀j (h:j<l.length),j<i->jK d l j h=true,μ:=fun i=>l.length - i,aW:=[1],aN:=fun i=>[(3,i64 i)],bn:=fun _=>[]}
theorem TX:CO rj (fw kY gB):=bO (C:=fw kY gB) (cfg:=fun(y:ae)=>cg sP (cr rj 4 (MR y.dot y.over))) bA (fun _=>rfl) (fun _=>ui) (n:=800) (by
 rintro⟨d,st,kd,ky,ck,l⟩ ⟨(hkn:ky.name.length<=1000000),(hv:ck.value.length<=1000000)⟩
 (conv=>whnf)
 refine⟨d,?_⟩
 repeat ((conv=>whnf);first|refine⟨rfl,?_⟩|refine⟨trivial,?_⟩)
 (conv=>whnf)
 refine aJ (fun h1=>?_) fun h1=>?_
 . (conv=>whnf)
   refine⟨?_,?_⟩
   . simp only[fw,gB,pB,ae.item];simp_all
   . repeat' (first|exact trivial|exact rfl|((conv=>whnf);first|(apply aJ<;>intro)|apply And.intro))
 (conv=>whnf)
 refine⟨st,?_⟩
 repeat ((conv=>whnf);first|refine⟨rfl,?_⟩|refine⟨trivial,?_⟩)
 (conv=>whnf)
 refine aJ (fun h2=>?_) fun h2=>?_
 . (conv=>whnf)
   refine⟨?_,?_⟩
   . simp only[fw,gB,pB,ae.item];simp_all
   . repeat' (first|exact trivial|exact rfl|((conv=>whnf);first|(apply aJ<;>intro)|apply And.intro))
 (conv=>whnf)
 refine aJ (fun h3=>?_) fun h3=>?_
 . (conv=>whnf)
   refine⟨?_,?_⟩
   . simp only[fw,gB,pB,ae.item];simp_all
   . repeat' (first|exact trivial|exact rfl|((conv=>whnf);first|(apply aJ<;>intro)|apply And.intro))
 (conv=>whnf)
 refine aJ (fun h4=>?_) fun h4=>?_
 . (conv=>whnf)
   refine⟨?_,?_⟩
   . have h4:64<l.length:=by
       have h4:bw 64 (Int.ofNat l.length)=true:=h4;rw[cj,Ab,Aa]at h4;omega
     have:jy d l=false:=by unfold jy;rw[Bq (by omega)];rfl
     simp only[fw,gB,pB,ae.item,this,BW,Bg]
   . repeat' (first|exact trivial|exact rfl|((conv=>whnf);first|(apply aJ<;>intro)|apply And.intro))
 have h:l.length<=64:=by
   have h4:bw 64 (Int.ofNat l.length)=false:=h4;rw[cj,Ah,Aa]at h4;omega
 have noR:jy d l=false->false=gB ⟨d,st,kd,ky,ck,l⟩:=fun hh=>by simp only[gB,hh,BW,Bg]
 have hd:fB d=true:=by simpa using h1
 have hs:oq st=true:=by
   have h2:(!oq st)=false:=h2;simpa using h2
 have he:(st.dev==d.dev)=true:=by
   have h3:(!(st.dev==d.dev))=false:=h3;simpa using h3
 have hR:jy d l=true->gB ⟨d,st,kd,ky,ck,l⟩=(bif kd==2 then pB ⟨ky,ck⟩&&bw 0 (Int.ofNat l.length)else bif kd==1 then sD ⟨ky,ck⟩else false):=fun hh=>by simp only[gB,hd,hs,he,hh,Bp,ae.item]
 clear h1 h2 h3 h4
 (conv=>whnf)
 refine⟨⟨(0:Nat),⟨Au _,fun _ _ h=>absurd h (Bi _)⟩,?_⟩,?_⟩
 . repeat' (first|exact trivial|exact rfl|((conv=>whnf);first|(apply aJ<;>intro)|apply And.intro))
 intro (x:Nat) hx;obtain⟨hx,hn'⟩:=hx;have hx:x<=l.length:=hx
 (conv=>whnf)
 refine aJ (fun hlt=>?_) fun hge=>?_
 . have hlt':x<l.length:=cq hlt;have no:=Kg (d:=d) hlt';have yes:jK d l x hlt'=true->(MR d l).ok (x+1:Nat):=fun hy=>⟨hlt',fun j hj hjx=>by
     rcases D8 j x with h1|h1
     . exact hn' j hj h1
     . have e:j=x:=by omega
       subst e;exact hy⟩
   have mu:l.length - (x+1)<l.length - x:=by omega
   (conv=>whnf)
   refine au.2 ⟨_,cE hlt',?_⟩
   (conv=>whnf)
   refine⟨l[x],?_⟩
   repeat ((conv=>whnf);first|refine⟨rfl,?_⟩|refine⟨trivial,?_⟩)
   (conv=>whnf)
   refine aJ (fun h1=>?_) fun h1=>?_
   . have h1:fB l[x]=false:=by
       have h1:(!fB l[x])=true:=h1;simpa using h1
     (conv=>whnf)
     refine⟨noR (no (by simp only[jK,h1,Bg])),?_⟩
     repeat' (first|exact trivial|exact rfl|((conv=>whnf);first|(apply aJ<;>intro)|apply And.intro))
   have h1:fB l[x]=true:=by
     have h1:(!fB l[x])=false:=h1;simpa using h1
   (conv=>whnf)
   refine ag.2 ⟨fun h2=> ?ga,fun h2=> ?gb⟩
   case' ga=>
     have hx0:0<x:=by
       have h2:bw 0 (x:Int)=true:=h2;rw[cj,Ab]at h2;omega
     have hx1:x - 1<l.length:=by omega
     have hget:l[((x:Int) - 1).toNat]? =some l[x - 1]:=by
       rw[show((x:Int) - 1).toNat=x - 1 by omega,Af hx1]
     (conv=>whnf)
     refine af.2 ⟨by rw[gU];omega,?_⟩
     (conv=>whnf)
     refine af.2 ⟨by rw[lC,Ab];omega,?_⟩
     (conv=>whnf)
     refine au.2 ⟨_,hget,?_⟩
     (conv=>whnf)
     refine⟨(l[x - 1],l[x]),?_⟩
     repeat ((conv=>whnf);first|refine⟨rfl,?_⟩|refine⟨trivial,?_⟩)
     (conv=>whnf)
     refine ag.2 ⟨fun h3=> ?gc,fun h3=> ?gd⟩
     case gc=>
       have h3:bI l[x - 1] l[x]=false:=by
         have h3:(!bI l[x - 1] l[x])=true:=h3;simpa using h3
       (conv=>whnf)
       refine⟨noR (no (by simp only[jK,h1,h3,Bq (show ¬x=0 by omega),EC,BW,Bg])),?_⟩
       repeat' (first|exact trivial|exact rfl|((conv=>whnf);first|(apply aJ<;>intro)|apply And.intro))
     case' gd=>
       have h3:bI l[x - 1] l[x]=true:=by
         have h3:(!bI l[x - 1] l[x])=false:=h3;simpa using h3
       have hA:jK d l x hlt'= !(l[x].dev==d.dev&&l[x].inc==d.inc&&bU d.seq l[x].seq):=by simp only[jK,h1,h3,EL,DD,Bp]
   case' gb=>
     have hx0:x=0:=by
       have h2:bw 0 (x:Int)=false:=h2;rw[cj,Ah]at h2;omega
     have hA:jK d l x hlt'= !(l[x].dev==d.dev&&l[x].inc==d.inc&&bU d.seq l[x].seq):=by simp only[jK,h1,Bj hx0,D9,DD,Bp]
   all_goals
     (conv=>whnf)
     refine aJ (fun h4=>?_) fun h4=>?_
     . have h4:(l[x].dev==d.dev&&l[x].inc==d.inc)=true:=by simpa using h4
       (conv=>whnf)
       refine aJ (fun h5=>?_) fun h5=>?_
       . have h5:bU d.seq l[x].seq=true:=h5;rw[h4,h5]at hA
         (conv=>whnf)
         refine⟨noR (no hA),?_⟩
         repeat' (first|exact trivial|exact rfl|((conv=>whnf);first|(apply aJ<;>intro)|apply And.intro))
       . have h5:bU d.seq l[x].seq=false:=h5;rw[h4,h5]at hA
         (conv=>whnf)
         refine af.2 ⟨ch x (by omega),?_⟩
         (conv=>whnf)
         refine⟨(x+1:Nat),yes hA,mu,?_⟩
         repeat' (first|exact trivial|exact rfl|((conv=>whnf);first|(apply aJ<;>intro)|apply And.intro))
     . have h4:(l[x].dev==d.dev&&l[x].inc==d.inc)=false:=by
         cases e:(l[x].dev==d.dev&&l[x].inc==d.inc)with
         |false=>rfl
         |true=>
          have e':(l[x].dev==d.dev&&(l[x].inc==d.inc&&true))=false:=h4;rw[DD,e]at e';cases e'
       rw[h4]at hA
       (conv=>whnf)
       refine af.2 ⟨ch x (by omega),?_⟩
       (conv=>whnf)
       refine⟨(x+1:Nat),yes hA,mu,?_⟩
       repeat' (first|exact trivial|exact rfl|((conv=>whnf);first|(apply aJ<;>intro)|apply And.intro))
 . have hge':l.length<=x:=gf hge;have hov:jy d l=true:=by
     unfold jy;rw[Bj h,Bj fun i hi=>hn' i hi (AP hi hge')];rfl
   have hR:=hR hov
   repeat' (first|exact trivial|(with_reducible exact rfl)|((conv=>whnf);first|(apply aJ<;>intro)|apply And.intro)|((conv=>whnf);refine⟨(⟨ky,ck⟩:aa),?_⟩;(conv=>whnf);refine⟨rfl,?_⟩))
   all_goals first|exact hkn|exact hv|skip
   all_goals (show _=gB ⟨d,st,kd,ky,ck,l⟩)
   all_goals (rw[hR];simp only[pB];clear hR noR hn')
   all_goals (simp_all[Lm,je,ql])
   all_goals trace_state)
end
section
variable [Inhabited aL]
def fE (x:ar) (a i:Int):Bool:=x.dev==a&&(x.inc==i&&true)
def getM (l:List ar) (a i:Int):Int:=match l.find? (fun x=>fE x a i)with|some x=>x.seq|none=>0
def eX (l:List ar) (d:ar):Bool:=fB d&&bU d.seq (getM l d.dev d.inc)
def lS (x:ar) (a i:Int):Bool:=bif !(x.dev==a)then bw x.dev a else bw x.inc i
def fy (a i n:Int) (s:List ar×Bool) (x:ar):List ar×Bool:=
 let s1:=bif !s.2&& !lS x a i then(s.1++[⟨a,i,n⟩],true)else s
 bif fE x a i then s1 else(s1.1++[x],s1.2)
def gC (l:List ar) (a i n:Int):List ar:=let s:=l.foldl (fy a i n) ([],false);bif s.2 then s.1 else s.1++[⟨a,i,n⟩]
def pR (l:List ar):Prop:=l.length<=100000
def M3:aM:={Y:=List ar×Int×Int,pre:=fun y=>pR y.1,args:=fun y=>[cw y.1, .agg [i64 y.2.1,i64 y.2.2]],res:=fun y=>i64 (getM y.1 y.2.1 y.2.2)}
def OV (y:List ar×Int×Int):aH:={α:=Nat,ok:=fun x=>x<=y.1.length/\ ∀j (h:j<y.1.length),j<x->fE y.1[j] y.2.1 y.2.2=false,μ:=fun x=>y.1.length - x,aW:=[3],aN:=fun x=>[(0,cw y.1),(5,i64 x)],bn:=fun _=>[]}
def M5:aM:={Y:=List ar×ar,pre:=fun y=>pR y.1,args:=fun y=>[cw y.1, .agg y.2.enc],res:=fun y=> .bool (eX y.1 y.2)}
def LO:aM:={Y:=ar×Int×Int,pre:=fun _=>True,args:=fun y=>[.agg [i64 y.1.dev,i64 y.1.inc], .agg [i64 y.2.1,i64 y.2.2]],res:=fun y=> .bool (lS y.1 y.2.1 y.2.2)}
def Nc:aM:={Y:=List ar×Int×Int×Int,pre:=fun y=>pR y.1,args:=fun y=>[cw y.1, .agg [i64 y.2.1,i64 y.2.2.1],i64 y.2.2.2],res:=fun y=>cw (gC y.1 y.2.1 y.2.2.1 y.2.2.2)}
def cH (y:List ar×Int×Int×Int) (x:Nat):List ar×Bool:=(y.1.take x).foldl (fy y.2.1 y.2.2.1 y.2.2.2) ([],false)
def OZ (y:List ar×Int×Int×Int):aH:={α:=Nat,ok:=fun x=>x<=y.1.length,μ:=fun x=>y.1.length - x,aW:=[4],aN:=fun x=>[(0,cw y.1),(2,i64 y.2.2.2),(7, .own 1),(8, .bool (cH y x).2),(9,i64 x)],bn:=fun x=>[(1, .arr ar (cH y x).1 ar.enc HU)]}
theorem Tl {α:Type} {p:α->Bool} {l:List α} (h:∀j (h:j<l.length),p l[j]=false):l.find? p=none:=by
 rw[DH];intro x hx;obtain⟨j,hj,rfl⟩:=Bd hx;rw[h j hj];simp
theorem Xl {α:Type} {p:α->Bool} {l:List α} {x:Nat} (hx:x<l.length) (h:∀j (h:j<l.length),j<x->p l[j]=false) (hp:p l[x]=true):l.find? p=some l[x]:=by
 rw[EN];exact⟨hp,x,hx,rfl,fun j hj=>by rw[h j (by omega) hj];rfl⟩
theorem Wl:CO Hu LO:=bO (cfg:=fun y=>cg sP (cS y)) bA (fun _=>rfl) (fun _=>ui) (n:=400) (by
 rintro⟨⟨a,b,c⟩,d,e⟩ -
 repeat' (first|exact trivial|exact rfl|((conv=>whnf);first|(apply aJ<;>intro)|apply And.intro))
 all_goals (simp_all[lS,Bool.cond_eq_ite]))
theorem Zb:CO GO M3:=bO (cfg:=fun y=>cg sP (cr GO 2 (OV y))) bA (fun _=>rfl) (fun _=>ui) (n:=400) (by
 rintro⟨l,a,i⟩ (hl:l.length<=100000)
 (conv=>whnf)
 refine⟨⟨(0:Nat),⟨Au _,fun _ _ h=>absurd h (Bi _)⟩,?_⟩,?_⟩
 . repeat' (first|exact trivial|exact rfl|((conv=>whnf);first|(apply aJ<;>intro)|apply And.intro))
 intro (x:Nat) hx;obtain⟨hx,hn⟩:=hx;have hx:x<=l.length:=hx;have hn:∀j (h:j<l.length),j<x->fE l[j] a i=false:=hn
 (conv=>whnf)
 refine aJ (fun hlt=>?_) fun hge=>?_
 . have hlt':x<l.length:=cq hlt
   (conv=>whnf)
   refine au.2 ⟨_,cE hlt',?_⟩
   (conv=>whnf)
   refine aJ (fun h=>?_) fun h=>?_
   . have h:fE l[x] a i=true:=h
     (conv=>whnf)
     refine au.2 ⟨_,cE hlt',?_⟩
     (conv=>whnf)
     refine⟨?_,?_⟩
     . show l[x].seq=getM l a i
       unfold getM;rw[Xl hlt' hn h]
     . repeat' (first|exact trivial|exact rfl|((conv=>whnf);first|(apply aJ<;>intro)|apply And.intro))
   . have h:fE l[x] a i=false:=h
     (conv=>whnf)
     refine af.2 ⟨ch x (by omega),?_⟩
     (conv=>whnf)
     refine⟨(x+1:Nat),⟨hlt',fun j hj hjx=>?_⟩,by show l.length - (x+1)<l.length - x;omega,?_⟩
     . rcases D8 j x with h1|h1
       . exact hn j hj h1
       . have e:j=x:=by omega
         subst e;exact h
     . repeat' (first|exact trivial|exact rfl|((conv=>whnf);first|(apply aJ<;>intro)|apply And.intro))
 . have hge':l.length<=x:=gf hge
   (conv=>whnf)
   refine⟨?_,?_⟩
   . show 0=getM l a i
     unfold getM;rw[Tl fun j hj=>hn j hj (by omega)]
   . repeat' (first|exact trivial|exact rfl|((conv=>whnf);first|(apply aJ<;>intro)|apply And.intro)))
noncomputable def xZ (f:FuncId):Option aM:=bif Nat.beq f Ho then some (fw kY gB)else bif Nat.beq f rj then some (fw kY gB)else bif Nat.beq f Hu then some LO else bif Nat.beq f GO then some M3 else sP f
theorem Cj:∀g C,xZ g=some C->CO g C:=bG KZ (bG TX (bG Wl (bG Zb ui)))
theorem Ze:CO HF M5:=bO (cfg:=fun y=>cg xZ (cS y)) bA (fun _=>rfl) (fun _=>Cj) (n:=400) (by
 rintro⟨l,d⟩ (hl:l.length<=100000)
 (conv=>whnf)
 refine⟨d,?_⟩
 repeat ((conv=>whnf);first|refine⟨rfl,?_⟩|refine⟨trivial,?_⟩)
 (conv=>whnf)
 refine aJ (fun h=>?_) fun h=>?_
 . have h:fB d=true:=h
   (conv=>whnf)
   refine⟨(l,d.dev,d.inc),?_⟩
   repeat ((conv=>whnf);first|refine⟨rfl,?_⟩|refine⟨trivial,?_⟩)
   refine⟨hl,?_⟩
   (conv=>whnf)
   refine⟨?_,?_⟩
   . show bU d.seq (getM l d.dev d.inc)=eX l d
     unfold eX;rw[h];rfl
   . repeat' (first|exact trivial|exact rfl|((conv=>whnf);first|(apply aJ<;>intro)|apply And.intro))
 . have h:fB d=false:=h
   (conv=>whnf)
   refine⟨?_,?_⟩
   . show false=eX l d
     unfold eX;rw[h];rfl
   . repeat' (first|exact trivial|exact rfl|((conv=>whnf);first|(apply aJ<;>intro)|apply And.intro)))
theorem Rp (a i n:Int) (s:List ar×Bool) (x:ar):(fy a i n s x).1.length<=s.1.length+2:=by
 unfold fy
 cases(!s.2&& !lS x a i)<;>cases fE x a i<;>simp
theorem Cz (y:List ar×Int×Int×Int):∀{x:Nat},x<=y.1.length->(cH y x).1.length<=2*x
 |0,_=>by simp[cH]
 |x+1,h=>by
  have h1:=Cz y (x:=x) (by omega);have h2:cH y (x+1)=fy y.2.1 y.2.2.1 y.2.2.2 (cH y x) y.1[x]:=kW _ _ h;have h3:=Rp y.2.1 y.2.2.1 y.2.2.2 (cH y x) y.1[x];rw[h2];omega
theorem Zp:CO GP Nc:=bO (cfg:=fun y=>cg xZ (cr GP 4 (OZ y))) bA (fun _=>rfl) (fun _=>Cj) (n:=600) (by
 rintro⟨l,a,i,n⟩ (hl:l.length<=100000)
 (conv=>whnf)
 refine⟨⟨(0:Nat),Au _,?_⟩,?_⟩
 . repeat' (first|exact trivial|exact rfl|((conv=>whnf);first|(apply aJ<;>intro)|apply And.intro))
 intro (x:Nat) hx;have hx:x<=l.length:=hx
 (conv=>whnf)
 refine aJ (fun hlt=>?_) fun hge=>?_
 . have hlt':x<l.length:=cq hlt;have hf:cH (l,a,i,n) (x+1)=fy a i n (cH (l,a,i,n) x) l[x]:=kW _ _ hlt';have hlen:(cH (l,a,i,n) x).1.length<=2*x:=Cz _ hx;have ap:∀M:List ar,M.length<=300000->(Nat.ble ((M.length+1)*24) 16777216&&Nat.ble (M.length+1) 16777216)=true:=fun M h=>by
     rw[Ac,AA,AA];omega
   have mu:l.length - (x+1)<l.length - x:=by omega
   have hL1:(cH (l,a,i,n) x).1.length<=300000:=by omega
   have hL2:((cH (l,a,i,n) x).1++[(⟨a,i,n⟩:ar)]).length<=300000:=by simp;omega
   (conv=>whnf)
   refine ag.2 ⟨fun h1=> ?ga,fun h1=> ?gb⟩
   case' ga=>
     have h1:(cH (l,a,i,n) x).2=false:=by simpa using h1
     (conv=>whnf)
     refine au.2 ⟨_,cE hlt',?_⟩
     (conv=>whnf)
     refine⟨(l[x],a,i),?_⟩
     repeat ((conv=>whnf);first|refine⟨rfl,?_⟩|refine⟨trivial,?_⟩)
     (conv=>whnf)
     refine ag.2 ⟨fun h2=> ?gc,fun h2=> ?gd⟩
     case' gc=>
       have h2:lS l[x] a i=false:=by
        have h2:(!lS l[x] a i)=true:=h2;simpa using h2
       have hst:fy a i n (cH (l,a,i,n) x) l[x]=(bif fE l[x] a i then((cH (l,a,i,n) x).1++[⟨a,i,n⟩],true)else((cH (l,a,i,n) x).1++[⟨a,i,n⟩]++[l[x]],true)):=by
        simp only[fy,h1,h2,Du,E4,BT]
       (conv=>whnf)
       refine⟨(⟨a,i,n⟩:ar),rfl,?_⟩
       (conv=>whnf)
       refine af.2 ⟨ap _ hL1,?_⟩
     case' gd=>
       have h2:lS l[x] a i=true:=by
        have h2:(!lS l[x] a i)=false:=h2;simpa using h2
       have hst:fy a i n (cH (l,a,i,n) x) l[x]=(bif fE l[x] a i then((cH (l,a,i,n) x).1,(cH (l,a,i,n) x).2)else((cH (l,a,i,n) x).1++[l[x]],(cH (l,a,i,n) x).2)):=by
        simp only[fy,h1,h2,BV,BW,Be]
        cases fE l[x] a i<;>simp[<-h1]
   case' gb=>
     have h1:(cH (l,a,i,n) x).2=true:=by simpa using h1
     have hst:fy a i n (cH (l,a,i,n) x) l[x]=(bif fE l[x] a i then((cH (l,a,i,n) x).1,(cH (l,a,i,n) x).2)else((cH (l,a,i,n) x).1++[l[x]],(cH (l,a,i,n) x).2)):=by
       simp only[fy,h1,BV,Bg,Be]
       cases fE l[x] a i<;>simp[<-h1]
   all_goals
     rw[hst]at hf
     (conv=>whnf)
     refine au.2 ⟨_,cE hlt',?_⟩
     (conv=>whnf)
     refine aJ (fun h3=>?_) fun h3=>?_
     . have h3:fE l[x] a i=false:=by
        have h3:(!fE l[x] a i)=true:=h3;simpa using h3
       rw[h3,Be]at hf
       (conv=>whnf)
       refine au.2 ⟨_,cE hlt',?_⟩
       (conv=>whnf)
       refine⟨l[x],rfl,?_⟩
       (conv=>whnf)
       refine af.2 ⟨by first|exact ap _ hL1|exact ap _ hL2,?_⟩
       (conv=>whnf)
       refine af.2 ⟨ch x (by omega),?_⟩
       (conv=>whnf)
       refine⟨(x+1:Nat),hlt',mu,?_⟩
       repeat' (first|exact trivial|exact rfl|((conv=>whnf);first|(apply aJ<;>intro)|apply And.intro))
       all_goals ((conv=>whnf);rw[hf])
     . have h3:fE l[x] a i=true:=by
        have h3:(!fE l[x] a i)=false:=h3;simpa using h3
       rw[h3,BT]at hf
       (conv=>whnf)
       refine af.2 ⟨ch x (by omega),?_⟩
       (conv=>whnf)
       refine⟨(x+1:Nat),hlt',mu,?_⟩
       repeat' (first|exact trivial|exact rfl|((conv=>whnf);first|(apply aJ<;>intro)|apply And.intro))
       all_goals ((conv=>whnf);rw[hf])
 . have hge':l.length<=x:=gf hge;have hall:gC l a i n=(bif (cH (l,a,i,n) x).2 then(cH (l,a,i,n) x).1 else(cH (l,a,i,n) x).1++[⟨a,i,n⟩]):=by
     unfold gC cH;rw[As hge']
   have hlen:(cH (l,a,i,n) x).1.length<=2*x:=Cz _ hx
   (conv=>whnf)
   refine aJ (fun h1=>?_) fun h1=>?_
   . have h1:(cH (l,a,i,n) x).2=false:=by simpa using h1
     rw[h1,Be]at hall
     (conv=>whnf)
     refine⟨(⟨a,i,n⟩:ar),rfl,?_⟩
     (conv=>whnf)
     refine af.2 ⟨by show(Nat.ble (((cH (l,a,i,n) x).1.length+1)*24) 16777216&&Nat.ble ((cH (l,a,i,n) x).1.length+1) 16777216)=true;rw[Ac,AA,AA];omega,?_⟩
     (conv=>whnf)
     refine⟨by rw[hall],?_⟩
     repeat' (first|exact trivial|exact rfl|((conv=>whnf);first|(apply aJ<;>intro)|apply And.intro))
   . have h1:(cH (l,a,i,n) x).2=true:=by simpa using h1
     rw[h1,BT]at hall
     (conv=>whnf)
     refine⟨by rw[hall],?_⟩
     repeat' (first|exact trivial|exact rfl|((conv=>whnf);first|(apply aJ<;>intro)|apply And.intro)))
noncomputable def F8 (f:FuncId):Option aM:=bif Nat.beq f HF then some M5 else bif Nat.beq f GP then some Nc else xZ f
theorem KO:∀g C,F8 g=some C->CO g C:=bG Ze (bG Zp Cj)
end
end Go.Proofs
